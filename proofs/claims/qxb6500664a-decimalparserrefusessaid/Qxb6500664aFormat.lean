import Derived.Test.Qxb6500664aAppendNeg
namespace Go.Proofs.Qxb6500664a
open Go.RowKit

/-- bytes as a string's value -/
def str (l : List UInt8) : Value := .string ⟨l.toArray⟩

theorem back_run (w : World) (g cap : Nat) (l : List UInt8) (hc : ∀ j (hj : j < l.length), w.cell? ⟨g, j, none⟩ = some (.int .u8 (l[j].toNat : Int))) :
    (convert 27 9 (.slice (some ⟨g, 0, none⟩) l.length cap)).run Try.prog w = .ok (.string ⟨l.toArray⟩) w :=
  run_convert_bytes_back w 27 9 5 ⟨g, 0, none⟩ cap l Try.underlying27 Try.underlying5 Try.underlying9 (fun j hj => by rw [Addr.add_lit, Nat.zero_add]; exact hc j hj)

set_option maxHeartbeats 400000 in
theorem format_any (w : World) (v : Int) (h1 : -9223372036854775808 ≤ v) (h2 : v ≤ 9223372036854775807) :
    Calls Try.prog 20 #[.int .i64 v] w fun e w' => e = .returned (str (Dec.text v)) ∧ Below w.heap.size w w' := by
  go_enter Try.func20, Try.ntmps20
  go_wp2_with fail
  refine (append_nil _ v h1 h2).mono ?_
  rintro e w1 ⟨g, cap, rfl, hg, hg1, hlc, hcm, hc, hbel⟩
  have hcv := back_run w1 g cap (Dec.text v) hc
  clear hc
  generalize hT : Dec.text v = T at *
  go_wp2_with fail
  go_ret
  exact ⟨by rw [str, hT]; rfl, hbel⟩
end Go.Proofs.Qxb6500664a
