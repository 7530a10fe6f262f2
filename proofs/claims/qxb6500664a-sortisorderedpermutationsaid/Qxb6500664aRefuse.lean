import Derived.Test.Qxb6500664aParseNeg
namespace Go.Proofs.Qxb6500664a
open Go.RowKit

theorem assert_code (v : Value) (w : World) : (Instr.typeAssert (.iface 58 v) 53 58 true).run Try.prog w = .ok (.tuple #[v, .bool true]) w := by kernel_rfl

set_option maxHeartbeats 400000 in
theorem codeOf_err (w : World) (k : Nat) (hk : 1 ≤ k) :
    Calls Try.prog 28 #[.iface 58 (.int .u8 (k : Int))] w fun e w' => e = .returned (.int .u8 (k : Int)) ∧ w' = w := by
  have hnz : ((k : Int) != 0) = true := by rw [bne_iff_ne]; omega
  have has := assert_code
  go_enter Try.func28, Try.ntmps28
  go_wp2
  go_ret
  exact ⟨rfl, rfl⟩

/-- the reader, the text's length said as it comes -/
theorem parse_at (w : World) (b cap n : Nat) (l : List UInt8) (hn : l.length = n) (hlc : n ≤ cap) (hcap : cap ≤ maxLen)
    (hc : ∀ j (hj : j < l.length), w.cell? ⟨b, j, none⟩ = some (.int .u8 (l[j].toNat : Int))) :
    Calls Try.prog 19 #[.slice (some ⟨b, 0, none⟩) n cap] w fun e w' =>
      e = .returned (.tuple #[.int .i64 (Dec.parse l).1, errV (Dec.parse l).2]) ∧ w' = w := by
  subst hn
  exact parse_any w ⟨b, 0, none⟩ cap l hlc hcap (fun j hj => by simpa using hc j hj) rfl

/-- .. of a text that is refused -/
theorem parse_bad (w : World) (b cap n k : Nat) (l : List UInt8) (hn : l.length = n) (hlc : n ≤ cap) (hcap : cap ≤ maxLen) (hk : 1 ≤ k) (hp : Dec.parse l = (0, k))
    (hc : ∀ j (hj : j < l.length), w.cell? ⟨b, j, none⟩ = some (.int .u8 (l[j].toNat : Int))) :
    Calls Try.prog 19 #[.slice (some ⟨b, 0, none⟩) n cap] w fun e w' =>
      e = .returned (.tuple #[.int .i64 0, .iface 58 (.int .u8 (k : Int))]) ∧ w' = w := by
  have h := parse_at w b cap n l hn hlc hcap hc
  rw [hp, show errV ((0 : Int), k).2 = .iface 58 (.int .u8 (k : Int)) from by simp only [errV]; rw [if_neg (by omega)]] at h
  exact h

theorem bytes_cell (w : World) (s : ByteArray) (cap lo hi j : Nat) (hj : j < s.data.toList.length) :
    (w.alloc (Obj.cells (bytesRow s cap) 5 (lo, hi))).drew.cell? ⟨w.heap.size, j, none⟩ = some (.int .u8 (s.data.toList[j].toNat : Int)) := by
  show (w.alloc (Obj.cells (bytesRow s cap) 5 (lo, hi))).cell? ⟨w.heap.size, j, none⟩ = _
  rw [World.cell?_alloc_mark, bytesRow_at s cap j (by simpa using hj)]
  simp

set_option maxHeartbeats 400000 in
theorem refused_any (w : World) (s : ByteArray) (k : Nat) (hs : s.size ≤ maxLen) (hk : 1 ≤ k) (hp : Dec.parse s.data.toList = (0, k)) :
    Calls Try.prog 21 #[.string s, .int .u8 (k : Int)] w fun e w' => e = .returned (.bool true) ∧ Below w.heap.size w w' := by
  have hcv := fun w => run_bytes_of_string (P := Try.prog) w 9 27 5 s Try.underlying9 Try.underlying27 Try.underlying5
  have HP : Hid (_ = _) := hp
  clear hp
  go_enter Try.func21, Try.ntmps21
  go_wp2_with fail
  refine (parse_bad _ w.heap.size (grownCap w s.size 0 5) s.size k s.data.toList rfl (grownCap_ge _ _ _ _) (grownCap_le_maxLen _ _ _ _ hs) hk HP.out (fun j hj => bytes_cell _ _ _ _ _ _ hj)).mono ?_
  rintro e w1 ⟨rfl, rfl⟩
  go_wp2_with fail
  refine (codeOf_err _ k hk).mono ?_
  rintro e w1 ⟨rfl, rfl⟩
  go_wp2_with fail
  go_ret
  exact ⟨rfl, ((Below.refl _ _).alloc (Nat.le_refl _) _).drew⟩
end Go.Proofs.Qxb6500664a
