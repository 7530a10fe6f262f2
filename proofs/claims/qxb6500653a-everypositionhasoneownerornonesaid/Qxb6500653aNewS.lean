/-
  sheetm.New (28), layout.New (29), newPlayer (9).
-/
import Derived.Test.Qxb6500653aSheetSet
namespace Go.Proofs.Qxb6500653a
open Go.RowKit

/-- the empty sheet's cells -/
def zS (pb : Nat) : Array Value := (List.replicate 90 (Value.int .i64 0) ++ (List.replicate 90 (Value.bool false) ++ [Value.slice none 0 0, Value.map (some pb), Value.int .u64 0])).toArray
/-- the cells while New fills them: k widths, j heights -/
def zf (k j pb o : Nat) : Value :=
  if o < 26 then (if o < k then .int .i64 8 else .int .i64 0)
  else if o < 90 then (if o - 26 < j then .int .i64 1 else .int .i64 0)
  else if o < 180 then .bool false
  else if o = 180 then .slice none 0 0
  else if o = 181 then .map (some pb)
  else .int .u64 0
theorem zS_get (pb o : Nat) (ho : o < 183) : (zS pb)[o]? = some (zf 0 0 pb o) := by
  unfold zS zf
  rw [List.getElem?_toArray]
  rcases Nat.lt_or_ge o 90 with h | h
  · rw [List.getElem?_append_left (by simpa using h), List.getElem?_replicate]
    rw [if_pos h]
    by_cases h1 : o < 26
    · simp [h1]
    · simp [h1, h]
  · rw [List.getElem?_append_right (by simpa using h), List.length_replicate]
    rcases Nat.lt_or_ge o 180 with h2 | h2
    · rw [List.getElem?_append_left (by simp; omega), List.getElem?_replicate, if_pos (by omega), if_neg (by omega), if_neg (by omega), if_pos h2]
    · rw [List.getElem?_append_right (by simp; omega), List.length_replicate, if_neg (by omega), if_neg (by omega), if_neg (by omega)]
      have : o = 180 ∨ o = 181 ∨ o = 182 := by omega
      rcases this with rfl | rfl | rfl <;> rfl
theorem zS_eq (pb : Nat) : Try.zeroCells89.setIfInBounds 181 (.map (some pb)) = zS pb := by kernel_rfl

structure ZAt (w w' : World) (sb pb k j : Nat) : Prop where
  kp : Kp no w w'
  new : w.heap.size ≤ sb
  at_ : ∀ o, o < 183 → w'.cell? ⟨sb, o, none⟩ = some (zf k j pb o)
  free : ∀ o, w'.frozen? ⟨sb, o, none⟩ = false
  map : w'.heap[pb]? = some (.map #[] 0)
theorem ZAt.ne {w w' : World} {sb pb k j : Nat} (h : ZAt w w' sb pb k j) : pb ≠ sb := fun e => by
  have h1 := h.at_ 0 (by decide)
  have h2 := h.map
  rw [e] at h2
  simp [World.cell?, h2] at h1
theorem ZAt.set {w w' : World} {sb pb k j k' j' : Nat} (h : ZAt w w' sb pb k j) (i : Nat) (v : Value) (hi : i < 183) (he : ∀ o, o < 183 → zf k' j' pb o = if o = i then v else zf k j pb o) : ZAt w (w'.setCell ⟨sb, i, none⟩ v) sb pb k' j' := by
  refine ⟨h.kp.setCell (p := ⟨sb, i, none⟩) (fun hl => absurd hl (by have := h.new; show ¬ sb < _; omega)) v, h.new, fun o ho => ?_, fun o => by rw [World.frozen?_setCell]; exact h.free o, ?_⟩
  · rw [he o ho]
    by_cases e : o = i
    · subst e; rw [if_pos rfl]; exact cset_eq _ _ _ _ (h.at_ o ho)
    · rw [if_neg e, cset_ne _ _ _ _ _ (Ne.symm e)]; exact h.at_ o ho
  · have hlt : pb < w'.heap.size := (Array.getElem?_eq_some_iff.1 h.map).1
    exact ((Kp.set (X := one sb) (w := w') ⟨sb, i, none⟩ v rfl).block _ hlt h.ne).trans h.map
theorem zf_k (k j pb o : Nat) (hk : k < 26) : zf (k + 1) j pb o = if o = k then .int .i64 8 else zf k j pb o := by
  unfold zf
  by_cases e : o = k
  · subst e; rw [if_pos hk, if_pos (by omega), if_pos rfl]
  · rw [if_neg e]
    by_cases h1 : o < 26
    · rw [if_pos h1, if_pos h1]
      by_cases h2 : o < k
      · rw [if_pos h2, if_pos (by omega)]
      · rw [if_neg h2, if_neg (by omega)]
    · rw [if_neg h1, if_neg h1]
theorem zf_j (k j pb o : Nat) (hj : j < 64) : zf k (j + 1) pb o = if o = 26 + j then .int .i64 1 else zf k j pb o := by
  unfold zf
  by_cases e : o = 26 + j
  · subst e; rw [if_neg (by omega), if_pos (by omega), if_pos (by omega), if_pos rfl]
  · rw [if_neg e]
    by_cases h1 : o < 26
    · rw [if_pos h1, if_pos h1]
    · rw [if_neg h1, if_neg h1]
      by_cases h0 : o < 90
      · rw [if_pos h0, if_pos h0]
        by_cases h2 : o - 26 < j
        · rw [if_pos h2, if_pos (by omega)]
        · rw [if_neg h2, if_neg (by omega)]
      · rw [if_neg h0, if_neg h0]

set_option maxRecDepth 100000 in
set_option maxHeartbeats 2000000 in
theorem newSheet_z (w : World) : Calls Try.prog 28 #[] w fun e w' => ∃ sb pb, e = .returned (.pointer (some ⟨sb, 0, none⟩)) ∧ ZAt w w' sb pb 26 64 := by
  obtain ⟨w2, hw2⟩ : ∃ w2, w2 = (w.alloc (.map #[] 0)).alloc (.cells (Try.zeroCells89.setIfInBounds 181 (.map (some w.heap.size))) 89) := ⟨_, rfl⟩
  obtain ⟨pb, hpb⟩ : ∃ pb, pb = w.heap.size := ⟨_, rfl⟩
  have HZ : Hid (ZAt w w2 (pb + 1) pb 0 0) := by
    show ZAt _ _ _ _ _ _
    rw [hw2, hpb, zS_eq]
    have hz : (w.alloc (.map #[] 0)).heap.size = w.heap.size + 1 := by simp
    refine ⟨((Kp.refl no w).alloc _).alloc _, by omega, fun o ho => ?_, fun o => by rw [← hz]; simp, ?_⟩
    · rw [← hz, World.cell?_alloc_new]
      exact zS_get _ o ho
    · rw [Below.heap_alloc _ _ _ (by rw [hz]; omega)]
      exact heap_alloc_new _ _
  have hmk := run_makeMap (P := Try.prog) 86 w
  go_enter Try.func28, Try.ntmps28
  go_upto_region 2 with fail
  rw [← hw2, ← hpb]
  clear hw2 hpb hmk
  go_wp2_with fail
  go_loopw [2, 7] (fun _ kv wr => ∃ k : Nat, k ≤ 26 ∧ kv = .int .i64 (k : Int) ∧ ZAt w wr (pb + 1) pb k 0) (fun _ kv _ => 26 - (intOf kv).toNat)
  case atStart => exact ⟨0, by omega, rfl, HZ.out⟩
  case round =>
    obtain ⟨k, hk, rfl, hz⟩ := hrel
    by_cases hlt : k < 26
    · have hi : (k : Int) < 26 := by omega
      have c0 := hz.at_ k (by omega)
      have f0 := hz.free k
      have HZ2 : Hid (ZAt w (wr.setCell ⟨pb + 1, k, none⟩ (.int .i64 8)) (pb + 1) pb (k + 1) 0) := hz.set k _ (by omega) (fun o _ => zf_k k 0 pb o hlt)
      go_wp2_with fail
      refine ⟨⟨k + 1, by omega, by go_num, HZ2.out⟩, by simp [intOf]; omega⟩
    · have hk' : k = 26 := by omega
      subst hk'
      have HZ3 : Hid (ZAt w wr (pb + 1) pb 26 0) := hz
      clear hz
      go_wp2_with fail
      go_loopw [3, 16] (fun _ kv wr => ∃ k : Nat, k ≤ 64 ∧ kv = .int .i64 (k : Int) ∧ ZAt w wr (pb + 1) pb 26 k) (fun _ kv _ => 64 - (intOf kv).toNat)
      case atStart => exact ⟨0, by omega, rfl, HZ3.out⟩
      case round =>
        obtain ⟨k, hk, rfl, hz⟩ := hrel
        by_cases hlt : k < 64
        · have hi : (k : Int) < 64 := by omega
          have c0 := hz.at_ (26 + k) (by omega)
          have f0 := hz.free (26 + k)
          have HZ2 : Hid (ZAt w (wr.setCell ⟨pb + 1, 26 + k, none⟩ (.int .i64 1)) (pb + 1) pb 26 (k + 1)) := hz.set (26 + k) _ (by omega) (fun o _ => zf_j 26 k pb o hlt)
          go_wp2_with fail
          refine ⟨⟨k + 1, by omega, by go_num, HZ2.out⟩, by simp [intOf]; omega⟩
        · have hk' : k = 64 := by omega
          subst hk'
          go_wp2_with fail
          go_ret
          exact ⟨_, _, rfl, hz⟩

/-- the empty sheet -/
def Sh.new (pb : Nat) : Sh := ⟨fun _ => 8, fun _ => 1, fun _ => false, fun _ => false, [], [], 0, .slice none 0 0, pb⟩
theorem Sh.new_ok (pb : Nat) : (Sh.new pb).Ok := ⟨fun _ => ⟨by show 1 ≤ 8; omega, by show 8 ≤ 80; omega⟩, fun _ => ⟨by show 1 ≤ 1; omega, by show 1 ≤ 24; omega⟩, by show 0 ≤ 32; omega, fun a ha => (by cases ha), List.Pairwise.nil, ⟨fun e he => (by cases he), List.Pairwise.nil⟩, Nat.zero_le _⟩
theorem ZAt.sheet {w w' : World} {sb pb : Nat} (h : ZAt w w' sb pb 26 64) : SheetAt w' sb (Sh.new pb) := by
  refine ⟨fun c hc => ?_, fun c hc => ?_, fun c hc => ?_, fun c hc => ?_, ?_, World.ownsRow_nil _ _ _ _, ?_, ⟨0, h.map⟩, ?_, h.free, fun _ => rfl⟩
  · refine (h.at_ c (by omega)).trans ?_
    unfold zf; rw [if_pos hc, if_pos hc]; rfl
  · refine (h.at_ (26 + c) (by omega)).trans ?_
    unfold zf; rw [if_neg (by omega), if_pos (by omega), if_pos (by omega)]; rfl
  · refine (h.at_ (90 + c) (by omega)).trans ?_
    unfold zf; rw [if_neg (by omega), if_neg (by omega), if_pos (by omega)]; rfl
  · refine (h.at_ (154 + c) (by omega)).trans ?_
    unfold zf; rw [if_neg (by omega), if_neg (by omega), if_pos (by omega)]; rfl
  · exact h.at_ 180 (by omega)
  · exact h.at_ 181 (by omega)
  · exact h.at_ 182 (by omega)
theorem ZAt.born {w w' : World} {sb pb : Nat} (h : ZAt w w' sb pb 26 64) : Born w' (Sh.new pb) := ⟨0, h.map, fun x hx => (by cases hx), List.Pairwise.nil⟩

def LNPost (sb : Nat) (w : World) (e : Ending) (w' : World) : Prop := ∃ lb, e = .returned (.pointer (some ⟨lb, 0, none⟩)) ∧ Kp no w w' ∧ ∀ S : Sh, LayAt w' lb sb S ⟨0, 0, 0, 0⟩
theorem newLay_at (w : World) (sb : Nat) : Calls Try.prog 29 #[.iface 38 (.pointer (some ⟨sb, 0, none⟩))] w (LNPost sb w) := by
  obtain ⟨w2, hw2⟩ : ∃ w2, w2 = w.alloc (.cells #[.iface 38 (.pointer (some ⟨sb, 0, none⟩)), .int .i64 0, .int .i64 0, .int .i64 0, .int .i64 0, .pointer none, .pointer none, .int .u64 0] 101) := ⟨_, rfl⟩
  have HL : Hid (∀ S : Sh, LayAt w2 w.heap.size sb S ⟨0, 0, 0, 0⟩) := fun S => by
    rw [hw2]
    exact ⟨by simp; rfl, by simp, by simp, by simp, by simp, ⟨none, none, 0, by simp, by simp, by simp, Nat.zero_le _, Or.inl rfl⟩, fun o => by simp⟩
  have HK : Hid (Kp no w w2) := by show Kp _ _ _; rw [hw2]; exact (Kp.refl no w).alloc _
  go_enter Try.func29, Try.ntmps29
  go_wp2_with fail
  rw [← hw2]
  go_ret
  exact ⟨_, rfl, HK.out, HL.out⟩

def NPPost (w : World) (e : Ending) (w' : World) : Prop := ∃ qb sb lb pb, e = .returned (.pointer (some ⟨qb, 0, none⟩)) ∧ Kp no w w' ∧ w'.cell? ⟨qb, 0, none⟩ = some (.pointer (some ⟨sb, 0, none⟩)) ∧ w'.cell? ⟨qb, 1, none⟩ = some (.pointer (some ⟨lb, 0, none⟩)) ∧ SheetAt w' sb (Sh.new pb) ∧ Born w' (Sh.new pb) ∧ LayAt w' lb sb (Sh.new pb) ⟨0, 0, 0, 0⟩
theorem newPlayer_at (w : World) : Calls Try.prog 9 #[] w (NPPost w) := by
  go_enter Try.func9, Try.ntmps9
  go_wp2_with fail
  refine (newSheet_z w).mono ?_
  rintro e w1 ⟨sb, pb, rfl, hz⟩
  have HS : Hid (SheetAt w1 sb (Sh.new pb) ∧ Born w1 (Sh.new pb)) := ⟨hz.sheet, hz.born⟩
  have HK : Hid (Kp no w w1) := hz.kp
  clear hz
  go_wp2_with fail
  refine (newLay_at w1 sb).mono ?_
  rintro e w2 ⟨lb, rfl, k2, hL⟩
  have HS2 : Hid (SheetAt w2 sb (Sh.new pb) ∧ Born w2 (Sh.new pb)) := ⟨HS.out.1.on k2, HS.out.2.kp k2 id _ rfl rfl⟩
  have HL : Hid (LayAt w2 lb sb (Sh.new pb) ⟨0, 0, 0, 0⟩) := hL _
  have HK2 : Hid (Kp no w w2) := HK.out.trans k2
  clear k2 hL HS HK
  obtain ⟨w3, hw3⟩ : ∃ w3, w3 = w2.alloc (.cells #[.pointer (some ⟨sb, 0, none⟩), .pointer (some ⟨lb, 0, none⟩)] 41) := ⟨_, rfl⟩
  have HC : Hid (w3.cell? ⟨w2.heap.size, 0, none⟩ = some (.pointer (some ⟨sb, 0, none⟩)) ∧ w3.cell? ⟨w2.heap.size, 1, none⟩ = some (.pointer (some ⟨lb, 0, none⟩))) := by
    rw [hw3]; exact ⟨by simp, by simp⟩
  have HK3 : Hid (Kp no w2 w3) := by show Kp _ _ _; rw [hw3]; exact (Kp.refl no w2).alloc _
  go_wp2_with fail
  rw [← hw3]
  go_ret
  exact ⟨_, _, _, _, rfl, HK2.out.trans HK3.out, HC.out.1, HC.out.2, HS2.out.1.on HK3.out, HS2.out.2.kp HK3.out id _ rfl rfl, HL.out.on HK3.out⟩
end Go.Proofs.Qxb6500653a
