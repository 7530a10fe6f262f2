/-
  'codeclaw.DecimalParsesBack' (function 4): the walk.
-/
import Derived.Test.Qxb6500664aNumbers
import Derived.Test.Qxb6500664aFormat
import Derived.Test.Qxb6500664aEdges
import Derived.Deep.RegionWith
import Derived.Deep.RegionHeld3
namespace Go.Proofs.Qxb6500664a
open Go.RowKit

theorem format_txt (w : World) (v : Int) (h1 : -9223372036854775808 ≤ v) (h2 : v ≤ 9223372036854775807) :
    Calls Try.prog 20 #[.int .i64 v] w fun e w' => e = .returned (.string ⟨(Dec.text v).toArray⟩) ∧ Below w.heap.size w w' := format_any w v h1 h2

/-- AppendInt behind the two bytes of a constant -/
theorem append_x (w : World) (v : Int) (g : Nat) (X : List UInt8) (hX : X = [120, 61] ++ Dec.text v) (h1 : -9223372036854775808 ≤ v) (h2 : v ≤ 9223372036854775807)
    (c0 : w.cell? ⟨g, 0, none⟩ = some (.int .u8 120)) (c1 : w.cell? ⟨g, 1, none⟩ = some (.int .u8 61)) :
    Calls Try.prog 18 #[.slice (some ⟨g, 0, none⟩) 2 2, .int .i64 v] w (AppLeft w X) :=
  hX ▸ append_any w (some ⟨g, 0, none⟩) 2 [120, 61] rfl v h1 h2 (by omega) (fun h => by simp at h) (fun b hb j hj => by
    simp at hb
    subst hb
    match j, hj with
    | 0, _ => exact c0
    | 1, _ => exact c1)

/-- the bytes of a text stay where nothing old turns -/
theorem text_stays {w w' : World} {g : Nat} {l : List UInt8} (hg : g < w.heap.size) (hb : Below w.heap.size w w') (h : ∀ j (hj : j < l.length), w.cell? ⟨g, j, none⟩ = some (.int .u8 (l[j].toNat : Int))) :
    ∀ j (hj : j < l.length), w'.cell? ⟨g, j, none⟩ = some (.int .u8 (l[j].toNat : Int)) :=
  fun j hj => (hb.cell (p := ⟨g, j, none⟩) hg).trans (h j hj)

/-- the bytes l lie at the head of block g -/
def TextIn (g : Nat) (l : List UInt8) (w : World) : Prop := ∀ j (hj : j < l.length), w.cell? ⟨g, j, none⟩ = some (.int .u8 (l[j].toNat : Int))
theorem TextIn.run {g : Nat} {l : List UInt8} (c : Nat) (w : World) (h : TextIn g l w) : Sem.run Try.prog (convert 27 9 (.slice (some ⟨g, 0, none⟩) l.length c)) w = .ok (.string ⟨l.toArray⟩) w := back_run w g c l h
theorem TextIn.drew {g : Nat} {l : List UInt8} {w : World} (h : TextIn g l w) : TextIn g l w.drew := h
theorem TextIn.alloc {g : Nat} {l : List UInt8} {w : World} (h : TextIn g l w) (o : Obj) : TextIn g l (w.alloc o) := fun j hj => Lib.cell?_alloc_marked o (h j hj)
theorem TextIn.below {g : Nat} {l : List UInt8} {w w' : World} (hg : g < w.heap.size) (h : TextIn g l w) (hb : Below w.heap.size w w') : TextIn g l w' := text_stays hg hb h

theorem add_x (T X : List UInt8) (hX : X = [120, 61] ++ T) (hT : T.length ≤ 20) (w : World) : (Op.stringOp .add ⟨#[120, 61]⟩ ⟨T.toArray⟩).run Try.prog w = .ok (.string ⟨X.toArray⟩) w := by
  rw [run_string_add_sum w ⟨#[120, 61]⟩ ⟨T.toArray⟩ (by show 2 + T.length ≤ _; omega), hX]
  have : (⟨#[120, 61]⟩ ++ ⟨T.toArray⟩ : ByteArray) = ⟨([120, 61] ++ T).toArray⟩ := by
    apply ByteArray.ext
    simp
  rw [this]

theorem below4 {w2 wr w4 w5 w6 : World} {o : Obj} (h1 : Below w2.heap.size w2 wr) (h2 : Below wr.heap.size wr w4) (h3 : Below w4.drew.heap.size w4.drew w5) (h4 : Below (w5.alloc o).heap.size (w5.alloc o) w6) : Below w2.heap.size w2 w6 := by
  have e1 : Below w2.heap.size w2 w4 := below_step h1 h2
  have e2 : Below w2.heap.size w2 w5 := below_step (a := w4.drew) e1.drew h3
  exact below_step (e2.alloc e2.size o) h4

set_option maxHeartbeats 4000000 in
theorem back_walk (w : World) (a : Option Addr) (n cap : Nat) (D : Nat → OD) (h : ScriptAt w a n cap D) :
    Calls Try.prog 4 #[.slice a n cap] w fun e w' => e = .returned (.bool true) ∧ Below w.heap.size w w' := by
  go_enter Try.func4, Try.ntmps4
  go_wp2_with fail
  refine (small_any w a n cap D h).mono ?_
  rintro e w1 ⟨r, rfl, rfl, hr⟩
  cases r with
  | false =>
    go_wp2_with fail
    go_ret
    exact ⟨rfl, Below.refl _ _⟩
  | true =>
    have hs := hr rfl
    clear hr
    go_wp2_with fail
    refine (numbers_any w1 a n cap D h hs).mono ?_
    rintro e w2 ⟨ao, cp, zs, rfl, hzl, hzr, hb2, hzc⟩
    go_wp2_with fail
    go_loopw [14] (fun i wr => ∃ k : Nat, k ≤ zs.length ∧ i = .int .i64 (k : Int) ∧ Below w2.heap.size w2 wr) (fun i _ => zs.length - (intOf i).toNat)
    case atStart => exact ⟨0, by omega, rfl, Below.refl _ _⟩
    case round =>
      obtain ⟨k, hk, rfl, hbr⟩ := hrel
      by_cases hlt : k < zs.length
      · obtain ⟨g, rfl, hg1, hg2, hgc⟩ := hzc (by omega)
        have hck := (hbr.cell (p := ⟨g, k, none⟩) hg2).trans (hgc k hlt)
        have hv := hzr _ (List.getElem_mem hlt)
        obtain ⟨hv1, hv2⟩ := hv
        clear hgc hzc hzr
        generalize zs[k] = v at *
        go_wp2_with fail
        refine (append_nil _ v hv1 hv2).mono ?_
        rintro e w3 ⟨g3, c3, rfl, hg3, hg3', hl3, hc3, hx3, hb3⟩
        go_wp2_with fail
        refine (parse_good _ g3 c3 _ v (Dec.text v) rfl hl3 hc3 (Dec.parse_text v hv1 hv2) hx3).mono ?_
        rintro e w4 ⟨rfl, rfl⟩
        have hlen := Dec.text_len v hv1 hv2
        have t1 : (((Dec.text v).length : Int) == 0) = false := by rw [beq_eq_false_iff_ne]; omega
        have t2 : decide ((20 : Int) < ((Dec.text v).length : Int)) = false := by simp; omega
        go_wp2_with fail
        have kc := fun (w : World) (C : Array Value) (n c : Nat) => Lib.run_convert_bytes_const (P := Try.prog) w 27 5 C n c Try.underlying27 Try.underlying5
        have hx4 : TextIn g3 (Dec.text v) w4 := hx3
        clear hx3
        have hcv1 := TextIn.run c3 w4.drew hx4
        obtain ⟨X, hX⟩ : ∃ X, X = [120, 61] ++ Dec.text v := ⟨_, rfl⟩
        have HXX : Hid (X = [120, 61] ++ Dec.text v) := hX
        have hadd := add_x (Dec.text v) X hX (by omega)
        clear hX
        have HX4 : Hid (TextIn g3 (Dec.text v) w4) := hx4
        clear hx4
        go_region_with (first | (go_at_call 20; refine (format_txt _ v hv1 hv2).mono ?_; rintro e w5 ⟨rfl, hb5⟩; have hx5 : TextIn g3 (Dec.text v) w5 := TextIn.below (w := w4.drew) hg3' HX4.out hb5; have hcv5 := TextIn.run c3 w5 hx5; have hcv5a := fun o => TextIn.run c3 (w5.alloc o) (hx5.alloc o); have HX5 : Hid (TextIn g3 (Dec.text v) w5) := hx5; clear hx5) | (go_at_call 18; refine (append_x (w5.alloc (.cells #[.int .u8 120, .int .u8 61] 5 (2, 3))) v w5.heap.size X HXX.out hv1 hv2 (by rw [World.cell?_alloc_mark]; rfl) (by rw [World.cell?_alloc_mark]; rfl)).mono ?_; rintro e w6 ⟨g6, c6, rfl, hg6, hg6', hl6, hc6, hx6, hb6⟩; have hcv6 := back_run w6 g6 c6 X hx6; have hcv6a := TextIn.run c3 w6 (TextIn.below (w := w5.alloc (.cells #[.int .u8 120, .int .u8 61] 5 (2, 3))) (Nat.lt_of_lt_of_le (Nat.lt_of_lt_of_le hg3' hb5.size) (by simp)) (HX5.out.alloc _) hb6); clear hx6))
        all_goals
          go_wp2_with fail
          go_roundw
          case rel => exact ⟨k + 1, by omega, by go_num, below4 hbr hb3 hb5 hb6⟩
          case measure => simp [intOf]; omega
      · go_wp2_with fail
        go_ret
        exact ⟨rfl, hb2.trans (hbr.mono hb2.size)⟩
end Go.Proofs.Qxb6500664a
