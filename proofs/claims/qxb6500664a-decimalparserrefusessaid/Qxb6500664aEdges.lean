import Derived.Test.Qxb6500664aFormat
namespace Go.Proofs.Qxb6500664a
open Go.RowKit

def leastText : List UInt8 := [45, 57, 50, 50, 51, 51, 55, 50, 48, 51, 54, 56, 53, 52, 55, 55, 53, 56, 48, 56]
def greatText : List UInt8 := [57, 50, 50, 51, 51, 55, 50, 48, 51, 54, 56, 53, 52, 55, 55, 53, 56, 48, 55]
theorem text_least : Dec.text (-9223372036854775808) = leastText := by decide +kernel
theorem text_great : Dec.text 9223372036854775807 = greatText := by decide +kernel
theorem parse_least : Dec.parse leastText = (-9223372036854775808, 0) := by decide +kernel
theorem parse_great : Dec.parse greatText = (9223372036854775807, 0) := by decide +kernel

/-- the twelve texts of numbers beyond reach -/
def beyond : List (List UInt8) :=
  [[57, 50, 50, 51, 51, 55, 50, 48, 51, 54, 56, 53, 52, 55, 55, 53, 56, 48, 56],
   [45, 57, 50, 50, 51, 51, 55, 50, 48, 51, 54, 56, 53, 52, 55, 55, 53, 56, 48, 57],
   [57, 50, 50, 51, 51, 55, 50, 48, 51, 54, 56, 53, 52, 55, 55, 53, 56, 49, 48],
   [45, 57, 50, 50, 51, 51, 55, 50, 48, 51, 54, 56, 53, 52, 55, 55, 53, 56, 49, 48],
   [49, 56, 52, 52, 54, 55, 52, 52, 48, 55, 51, 55, 48, 57, 53, 53, 49, 54, 49, 53],
   [49, 56, 52, 52, 54, 55, 52, 52, 48, 55, 51, 55, 48, 57, 53, 53, 49, 54, 49, 54],
   [49, 56, 52, 52, 54, 55, 52, 52, 48, 55, 51, 55, 48, 57, 53, 53, 49, 54, 49, 55],
   [45, 49, 56, 52, 52, 54, 55, 52, 52, 48, 55, 51, 55, 48, 57, 53, 53, 49, 54, 49, 55],
   [57, 57, 57, 57, 57, 57, 57, 57, 57, 57, 57, 57, 57, 57, 57, 57, 57, 57, 57, 57],
   [45, 57, 57, 57, 57, 57, 57, 57, 57, 57, 57, 57, 57, 57, 57, 57, 57, 57, 57, 57, 57],
   [49, 56, 52, 52, 54, 55, 52, 52, 48, 55, 51, 55, 48, 57, 53, 53, 49, 54, 49, 54, 48],
   [49, 48, 48, 48, 48, 48, 48, 48, 48, 48, 48, 48, 48, 48, 48, 48, 48, 48, 48, 48, 48, 48, 48, 48, 48, 48, 48, 48, 48, 48]]
theorem beyond_refused : ∀ l ∈ beyond, Dec.parse l = (0, 13) := by decide +kernel
theorem beyond_short : ∀ l ∈ beyond, l.length ≤ 30 := by decide +kernel

theorem format_least (w : World) : Calls Try.prog 20 #[.int .i64 (-9223372036854775808)] w fun e w' => e = .returned (.string ⟨#[45, 57, 50, 50, 51, 51, 55, 50, 48, 51, 54, 56, 53, 52, 55, 55, 53, 56, 48, 56]⟩) ∧ Below w.heap.size w w' := by
  have h := format_any w (-9223372036854775808) (by omega) (by omega)
  rw [text_least] at h
  exact h
theorem format_great (w : World) : Calls Try.prog 20 #[.int .i64 9223372036854775807] w fun e w' => e = .returned (.string ⟨#[57, 50, 50, 51, 51, 55, 50, 48, 51, 54, 56, 53, 52, 55, 55, 53, 56, 48, 55]⟩) ∧ Below w.heap.size w w' := by
  have h := format_any w 9223372036854775807 (by omega) (by omega)
  rw [text_great] at h
  exact h

/-- a constant's bytes in memory -/
theorem const_cell (w : World) (C : Array Value) (lo hi : Nat) (l : List UInt8) (hC : C = (l.map bv).toArray) : ∀ j (hj : j < l.length), (w.alloc (.cells C 5 (lo, hi))).cell? ⟨w.heap.size, j, none⟩ = some (.int .u8 (l[j].toNat : Int)) := by
  intro j hj
  rw [World.cell?_alloc_mark, hC]
  simp [List.getElem?_eq_getElem hj, bv]

theorem xor_least : bits BinOp.xor IntKind.i64 (-1) (-9223372036854775808) = 9223372036854775807 := by kernel_rfl

theorem parse_good (w : World) (b cap n : Nat) (v : Int) (l : List UInt8) (hn : l.length = n) (hlc : n ≤ cap) (hcap : cap ≤ maxLen) (hp : Dec.parse l = (v, 0))
    (hc : ∀ j (hj : j < l.length), w.cell? ⟨b, j, none⟩ = some (.int .u8 (l[j].toNat : Int))) :
    Calls Try.prog 19 #[.slice (some ⟨b, 0, none⟩) n cap] w fun e w' => e = .returned (.tuple #[.int .i64 v, .nilIface]) ∧ w' = w := by
  have h := parse_at w b cap n l hn hlc hcap hc
  rw [hp] at h
  exact h

theorem least_back (w : World) : Calls Try.prog 19 #[.slice (some ⟨w.heap.size, 0, none⟩) 20 20] (w.alloc (.cells #[.int .u8 45, .int .u8 57, .int .u8 50, .int .u8 50, .int .u8 51, .int .u8 51, .int .u8 55, .int .u8 50, .int .u8 48, .int .u8 51, .int .u8 54, .int .u8 56, .int .u8 53, .int .u8 52, .int .u8 55, .int .u8 55, .int .u8 53, .int .u8 56, .int .u8 48, .int .u8 56] 5 (20, 21))) fun e w' => e = .returned (.tuple #[.int .i64 (-9223372036854775808), .nilIface]) ∧ Below w.heap.size w w' :=
  (parse_good _ w.heap.size 20 20 _ leastText rfl (by omega) (by unfold maxLen; omega) parse_least (const_cell w _ 20 21 leastText rfl)).mono fun e w' ⟨h1, h2⟩ => ⟨h1, by rw [h2]; exact (Below.refl _ _).alloc (Nat.le_refl _) _⟩
theorem great_back (w : World) : Calls Try.prog 19 #[.slice (some ⟨w.heap.size, 0, none⟩) 19 19] (w.alloc (.cells #[.int .u8 57, .int .u8 50, .int .u8 50, .int .u8 51, .int .u8 51, .int .u8 55, .int .u8 50, .int .u8 48, .int .u8 51, .int .u8 54, .int .u8 56, .int .u8 53, .int .u8 52, .int .u8 55, .int .u8 55, .int .u8 53, .int .u8 56, .int .u8 48, .int .u8 55] 5 (19, 20))) fun e w' => e = .returned (.tuple #[.int .i64 9223372036854775807, .nilIface]) ∧ Below w.heap.size w w' :=
  (parse_good _ w.heap.size 19 19 _ greatText rfl (by omega) (by unfold maxLen; omega) parse_great (const_cell w _ 19 20 greatText rfl)).mono fun e w' ⟨h1, h2⟩ => ⟨h1, by rw [h2]; exact (Below.refl _ _).alloc (Nat.le_refl _) _⟩

theorem beyond_cells (w : World) : ∀ j (hj : j < beyond.length), (w.alloc (.cells (beyond.map str).toArray 9)).cell? ⟨w.heap.size, j, none⟩ = some (.string ⟨(beyond[j]).toArray⟩) := by
  intro j hj
  rw [World.cell?_alloc_at (hn := rfl)]
  simp [List.getElem?_eq_getElem hj, str]

theorem ref0 (w : World) : Calls Try.prog 21 #[.string ⟨#[45, 48]⟩, .int .u8 10] w fun e w' => e = .returned (.bool true) ∧ Below w.heap.size w w' :=
  refused_any w ⟨#[45, 48]⟩ 10 (by show 2 ≤ maxLen; unfold maxLen; omega) (by omega) (by decide +kernel)
theorem ref1 (w : World) : Calls Try.prog 21 #[.string ⟨#[48, 48]⟩, .int .u8 12] w fun e w' => e = .returned (.bool true) ∧ Below w.heap.size w w' :=
  refused_any w ⟨#[48, 48]⟩ 12 (by show 2 ≤ maxLen; unfold maxLen; omega) (by omega) (by decide +kernel)
theorem ref2 (w : World) : Calls Try.prog 21 #[.string ⟨#[45, 48, 48]⟩, .int .u8 12] w fun e w' => e = .returned (.bool true) ∧ Below w.heap.size w w' :=
  refused_any w ⟨#[45, 48, 48]⟩ 12 (by show 3 ≤ maxLen; unfold maxLen; omega) (by omega) (by decide +kernel)
theorem ref3 (w : World) : Calls Try.prog 21 #[.string ⟨#[48, 120, 49]⟩, .int .u8 11] w fun e w' => e = .returned (.bool true) ∧ Below w.heap.size w w' :=
  refused_any w ⟨#[48, 120, 49]⟩ 11 (by show 3 ≤ maxLen; unfold maxLen; omega) (by omega) (by decide +kernel)
theorem ref4 (w : World) : Calls Try.prog 21 #[.string ⟨#[57, 57, 57, 57, 57, 57, 57, 57, 57, 57, 57, 57, 57, 57, 57, 57, 57, 57, 57, 57, 120]⟩, .int .u8 11] w fun e w' => e = .returned (.bool true) ∧ Below w.heap.size w w' :=
  refused_any w ⟨#[57, 57, 57, 57, 57, 57, 57, 57, 57, 57, 57, 57, 57, 57, 57, 57, 57, 57, 57, 57, 120]⟩ 11 (by show 21 ≤ maxLen; unfold maxLen; omega) (by omega) (by decide +kernel)
theorem ref5 (w : World) : Calls Try.prog 21 #[.string ⟨#[48, 57, 57, 57, 57, 57, 57, 57, 57, 57, 57, 57, 57, 57, 57, 57, 57, 57, 57, 57, 57]⟩, .int .u8 12] w fun e w' => e = .returned (.bool true) ∧ Below w.heap.size w w' :=
  refused_any w ⟨#[48, 57, 57, 57, 57, 57, 57, 57, 57, 57, 57, 57, 57, 57, 57, 57, 57, 57, 57, 57, 57]⟩ 12 (by show 21 ≤ maxLen; unfold maxLen; omega) (by omega) (by decide +kernel)

theorem below_step {w a b : World} (h : Below w.heap.size w a) (g : Below a.heap.size a b) : Below w.heap.size w b := h.trans (g.mono h.size)

set_option maxHeartbeats 400000 in
theorem edges_walk (w : World) : Calls Try.prog 6 #[] w fun e w' => e = .returned (.bool true) ∧ Below w.heap.size w w' := by
  have kc := fun (w : World) (C : Array Value) (n c : Nat) => Lib.run_convert_bytes_const (P := Try.prog) w 27 5 C n c Try.underlying27 Try.underlying5
  go_enter Try.func6, Try.ntmps6
  go_wp2_with fail
  rw [xor_least]
  refine (format_least _).mono ?_
  rintro e w1 ⟨rfl, hb1⟩
  go_wp2_with fail
  refine (format_great _).mono ?_
  rintro e w2 ⟨rfl, hb2⟩
  go_wp2_with fail
  refine (least_back _).mono ?_
  rintro e w3 ⟨rfl, hb3⟩
  go_wp2_with fail
  refine (great_back _).mono ?_
  rintro e w4 ⟨rfl, hb4⟩
  have hb : Below w.heap.size w w4 := hb1.trans ((hb2.mono hb1.size).trans ((hb3.mono (Nat.le_trans hb1.size hb2.size)).trans (hb4.mono (Nat.le_trans hb1.size (Nat.le_trans hb2.size hb3.size)))))
  clear hb1 hb2 hb3 hb4
  go_wp2_with fail
  go_loopw [49] (fun i wr => ∃ k : Nat, k ≤ 12 ∧ i = .int .i64 (k : Int) ∧ Below w.heap.size w wr ∧ w4.heap.size < wr.heap.size ∧ w.heap.size ≤ w4.heap.size ∧ ∀ j (hj : j < beyond.length), wr.cell? ⟨w4.heap.size, j, none⟩ = some (.string ⟨(beyond[j]).toArray⟩))
    (fun i _ => 12 - (intOf i).toNat)
  case atStart => exact ⟨0, by omega, rfl, hb.alloc hb.size _, by simp, hb.size, beyond_cells w4⟩
  case round =>
    obtain ⟨k, hk, rfl, hbr, hsz, hsz0, hcs⟩ := hrel
    by_cases hlt : k < 12
    · have hkb : k < beyond.length := hlt
      have hck := hcs k hkb
      have hpk := beyond_refused _ (List.getElem_mem hkb)
      have hsk := beyond_short _ (List.getElem_mem hkb)
      have HC : Hid _ := hcs
      have HP : Hid _ := hpk
      clear hpk hcs
      generalize beyond[k] = T at *
      go_wp2_with fail
      refine (refused_any _ ⟨T.toArray⟩ 13 (by show T.length ≤ _; unfold maxLen; omega) (by omega) HP.out).mono ?_
      rintro e w5 ⟨rfl, hb5⟩
      go_wp2_with fail
      go_roundw
      case rel => exact ⟨k + 1, by omega, by go_num, hbr.trans (hb5.mono hbr.size), Nat.lt_of_lt_of_le hsz hb5.size, hsz0, fun j hj => (hb5.cell (p := ⟨w4.heap.size, j, none⟩) hsz).trans (HC.out j hj)⟩
      case measure => simp [intOf]; omega
    · clear hcs
      go_wp2_with fail
      refine (ref0 _).mono ?_
      rintro e x0 ⟨rfl, g0⟩
      go_wp2_with fail
      refine (ref1 _).mono ?_
      rintro e x1 ⟨rfl, g1⟩
      go_wp2_with fail
      refine (ref2 _).mono ?_
      rintro e x2 ⟨rfl, g2⟩
      go_wp2_with fail
      refine (ref3 _).mono ?_
      rintro e x3 ⟨rfl, g3⟩
      go_wp2_with fail
      refine (ref4 _).mono ?_
      rintro e x4 ⟨rfl, g4⟩
      go_wp2_with fail
      refine (ref5 _).mono ?_
      rintro e x5 ⟨rfl, g5⟩
      go_wp2_with fail
      go_ret
      exact ⟨rfl, below_step (below_step (below_step (below_step (below_step (below_step hbr g0) g1) g2) g3) g4) g5⟩
end Go.Proofs.Qxb6500664a
