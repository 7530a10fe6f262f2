/-
  newPlayer (9): its blocks are new.
-/
import Derived.Test.Qxb6500653aPlayB
namespace Go.Proofs.Qxb6500653a
open Go.RowKit

set_option maxRecDepth 100000 in
set_option maxHeartbeats 2000000 in
theorem newSheet_n (w : World) : Calls Try.prog 28 #[] w fun e w' => ∃ sb pb, e = .returned (.pointer (some ⟨sb, 0, none⟩)) ∧ ZAt w w' sb pb 26 64 ∧ w.heap.size ≤ pb := by
  obtain ⟨w2, hw2⟩ : ∃ w2, w2 = (w.alloc (.map #[] 0)).alloc (.cells (Try.zeroCells89.setIfInBounds 181 (.map (some w.heap.size))) 89) := ⟨_, rfl⟩
  obtain ⟨pb, hpb⟩ : ∃ pb, pb = w.heap.size := ⟨_, rfl⟩
  have HPB : Hid (w.heap.size ≤ pb) := by show _ ≤ _; omega
  have HZ : Hid (ZAt w w2 (pb + 1) pb 0 0) := by
    show ZAt _ _ _ _ _ _
    rw [hw2, hpb, zS_eq]
    have hz : (w.alloc (.map #[] 0)).heap.size = w.heap.size + 1 := by simp
    refine ⟨((Kp.refl no w).alloc _).alloc _, by omega, fun o ho => ?_, fun o => by rw [← hz]; simp, ?_⟩
    · rw [← hz, World.cell?_alloc_new]
      exact zS_get _ o ho
    · rw [Below.heap_alloc _ _ _ (by rw [hz]; omega)]
      exact heap_alloc_new _ _
  have hmk := run_makeMap (P := Try.prog) 86 w
  go_enter Try.func28, Try.ntmps28
  go_upto_region 2 with fail
  rw [← hw2, ← hpb]
  clear hw2 hpb hmk
  go_wp2_with fail
  go_loopw [2, 7] (fun _ kv wr => ∃ k : Nat, k ≤ 26 ∧ kv = .int .i64 (k : Int) ∧ ZAt w wr (pb + 1) pb k 0) (fun _ kv _ => 26 - (intOf kv).toNat)
  case atStart => exact ⟨0, by omega, rfl, HZ.out⟩
  case round =>
    obtain ⟨k, hk, rfl, hz⟩ := hrel
    by_cases hlt : k < 26
    · have hi : (k : Int) < 26 := by omega
      have c0 := hz.at_ k (by omega)
      have f0 := hz.free k
      have HZ2 : Hid (ZAt w (wr.setCell ⟨pb + 1, k, none⟩ (.int .i64 8)) (pb + 1) pb (k + 1) 0) := hz.set k _ (by omega) (fun o _ => zf_k k 0 pb o hlt)
      go_wp2_with fail
      refine ⟨⟨k + 1, by omega, by go_num, HZ2.out⟩, by simp [intOf]; omega⟩
    · have hk' : k = 26 := by omega
      subst hk'
      have HZ3 : Hid (ZAt w wr (pb + 1) pb 26 0) := hz
      clear hz
      go_wp2_with fail
      go_loopw [3, 16] (fun _ kv wr => ∃ k : Nat, k ≤ 64 ∧ kv = .int .i64 (k : Int) ∧ ZAt w wr (pb + 1) pb 26 k) (fun _ kv _ => 64 - (intOf kv).toNat)
      case atStart => exact ⟨0, by omega, rfl, HZ3.out⟩
      case round =>
        obtain ⟨k, hk, rfl, hz⟩ := hrel
        by_cases hlt : k < 64
        · have hi : (k : Int) < 64 := by omega
          have c0 := hz.at_ (26 + k) (by omega)
          have f0 := hz.free (26 + k)
          have HZ2 : Hid (ZAt w (wr.setCell ⟨pb + 1, 26 + k, none⟩ (.int .i64 1)) (pb + 1) pb 26 (k + 1)) := hz.set (26 + k) _ (by omega) (fun o _ => zf_j 26 k pb o hlt)
          go_wp2_with fail
          refine ⟨⟨k + 1, by omega, by go_num, HZ2.out⟩, by simp [intOf]; omega⟩
        · have hk' : k = 64 := by omega
          subst hk'
          go_wp2_with fail
          go_ret
          exact ⟨_, _, rfl, hz, HPB.out⟩

def LNPost2 (sb : Nat) (w : World) (e : Ending) (w' : World) : Prop := ∃ lb, e = .returned (.pointer (some ⟨lb, 0, none⟩)) ∧ Kp no w w' ∧ w.heap.size ≤ lb ∧ ∀ S : Sh, LayAt w' lb sb S ⟨0, 0, 0, 0⟩
theorem newLay_n (w : World) (sb : Nat) : Calls Try.prog 29 #[.iface 38 (.pointer (some ⟨sb, 0, none⟩))] w (LNPost2 sb w) := by
  obtain ⟨w2, hw2⟩ : ∃ w2, w2 = w.alloc (.cells #[.iface 38 (.pointer (some ⟨sb, 0, none⟩)), .int .i64 0, .int .i64 0, .int .i64 0, .int .i64 0, .pointer none, .pointer none, .int .u64 0] 101) := ⟨_, rfl⟩
  have HL : Hid (∀ S : Sh, LayAt w2 w.heap.size sb S ⟨0, 0, 0, 0⟩) := fun S => by
    rw [hw2]
    exact ⟨by simp; rfl, by simp, by simp, by simp, by simp, ⟨none, none, 0, by simp, by simp, by simp, Nat.zero_le _, Or.inl rfl⟩, fun o => by simp⟩
  have HK : Hid (Kp no w w2) := by show Kp _ _ _; rw [hw2]; exact (Kp.refl no w).alloc _
  go_enter Try.func29, Try.ntmps29
  go_wp2_with fail
  rw [← hw2]
  go_ret
  exact ⟨_, rfl, HK.out, Nat.le_refl _, HL.out⟩

/-- a new player; all its blocks are new -/
def NPPost2 (w : World) (e : Ending) (w' : World) : Prop := ∃ qb sb lb pb, e = .returned (.pointer (some ⟨qb, 0, none⟩)) ∧ Kp no w w' ∧ GameAt w' qb sb lb (Sh.new pb) ⟨0, 0, 0, 0⟩ ∧ w.heap.size ≤ sb ∧ w.heap.size ≤ lb ∧ w.heap.size ≤ pb
theorem newPlayer_n (w : World) : Calls Try.prog 9 #[] w (NPPost2 w) := by
  go_enter Try.func9, Try.ntmps9
  go_wp2_with fail
  refine (newSheet_n w).mono ?_
  rintro e w1 ⟨sb, pb, rfl, hz, hpb⟩
  have HS : Hid (SheetAt w1 sb (Sh.new pb) ∧ Born w1 (Sh.new pb)) := ⟨hz.sheet, hz.born⟩
  have HK : Hid (Kp no w w1) := hz.kp
  have HPB : Hid (w.heap.size ≤ pb ∧ w.heap.size ≤ sb) := ⟨hpb, hz.new⟩
  clear hz hpb
  go_wp2_with fail
  refine (newLay_n w1 sb).mono ?_
  rintro e w2 ⟨lb, rfl, k2, hlb, hL⟩
  have HS2 : Hid (SheetAt w2 sb (Sh.new pb) ∧ Born w2 (Sh.new pb)) := ⟨HS.out.1.on k2, HS.out.2.kp k2 id _ rfl rfl⟩
  have HL : Hid (LayAt w2 lb sb (Sh.new pb) ⟨0, 0, 0, 0⟩) := hL _
  have HK2 : Hid (Kp no w w2) := HK.out.trans k2
  have HLB : Hid (w.heap.size ≤ lb) := Nat.le_trans HK.out.size hlb
  clear k2 hL HS HK hlb
  obtain ⟨w3, hw3⟩ : ∃ w3, w3 = w2.alloc (.cells #[.pointer (some ⟨sb, 0, none⟩), .pointer (some ⟨lb, 0, none⟩)] 41) := ⟨_, rfl⟩
  have HC : Hid (w3.cell? ⟨w2.heap.size, 0, none⟩ = some (.pointer (some ⟨sb, 0, none⟩)) ∧ w3.cell? ⟨w2.heap.size, 1, none⟩ = some (.pointer (some ⟨lb, 0, none⟩))) := by
    rw [hw3]; exact ⟨by simp, by simp⟩
  have HK3 : Hid (Kp no w2 w3) := by show Kp _ _ _; rw [hw3]; exact (Kp.refl no w2).alloc _
  go_wp2_with fail
  rw [← hw3]
  go_ret
  exact ⟨_, _, _, _, rfl, HK2.out.trans HK3.out, ⟨HS2.out.1.on HK3.out, Sh.new_ok _, HL.out.on HK3.out, ⟨Nat.le_refl _, Nat.le_refl _, by show 0 < 64; omega, by show 0 < 26; omega⟩, HS2.out.2.kp HK3.out id _ rfl rfl, HC.out.1, HC.out.2⟩, HPB.out.2, HLB.out, HPB.out.1⟩

/-- what a step may write is new since the base -/
theorem gX_new {w : World} {qb sb lb base : Nat} {S : Sh} {V : Vw} (h : GameAt w qb sb lb S V) (h1 : base ≤ sb) (h2 : base ≤ lb) (h3 : base ≤ S.pb) {k : Nat} (hk : gX sb lb S k) : base ≤ k := by
  rcases hk with rfl | rfl | rfl | hk
  · exact h2
  · exact h1
  · exact h3
  · have := (h.sh.mrow.lt k hk).1
    omega
end Go.Proofs.Qxb6500653a
