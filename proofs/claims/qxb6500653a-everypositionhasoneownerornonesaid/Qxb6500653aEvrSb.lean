/-
  EveryPosition (3): a position that no cell owns.
-/
import Derived.Test.Qxb6500653aEvrS0
import Derived.Test.Qxb6500653aKq
namespace Go.Proofs.Qxb6500653a
open Go.RowKit

set_option maxRecDepth 100000 in
set_option maxHeartbeats 400000000 in
theorem evr_sb (sb lb x : Nat) (S : Sh) (V : Vw) (F : Nat → Nat → Spot) (O : Nat → Nat → Nat) (w8 wr : World) (qb fb vb cb ib y : Nat) (cs : List Value) (w51 : World) (s34 s35 s36 : Value)
    (HG8 : Hid (GameAt w8 qb sb lb S V)) (HCH : Hid (Cached w8 lb S V)) (_HF8 : Hid (FrameAt w8 fb F)) (HFO : Hid (FOwn F S V)) (HKN : Hid (Kp no w8 w51)) (HCO : Hid (ArrAt w51 cb O)) (HIO : Hid (ArrAt w51 ib O)) (HOO : Hid (∀ y x, O y x = if ownsAt S V y x = true then 1 else 0))
    (HCI : Hid (∀ x : Nat, x < 80 → ∀ Z : World, (Instr.index 53 (.agg cs.toArray) (.int .i64 (x : Int))).run Try.prog Z = .ok (.agg #[.bool (F y x).own, .int .i64 ((F y x).oR : Int), .int .i64 ((F y x).oC : Int), .bool (F y x).drawn, .int .i64 ((F y x).fR : Int), .int .i64 ((F y x).fC : Int), .int .u8 ((F y x).ch : Int)]) Z))
    (hyl : y < 24) (hxl : x < 80) (kx : Kp no w51 wr) (T : Array Value) (hT : T.size = 432) (hk : Knows T [(3, .pointer (some ⟨qb, 0, none⟩)), (6, .pointer (some ⟨fb, 0, none⟩)), (7, .pointer (some ⟨vb, 0, none⟩)), (8, .pointer (some ⟨cb, 0, none⟩)), (9, .pointer (some ⟨ib, 0, none⟩)), (34, s34), (35, s35), (36, s36), (285, .int .i64 (y : Int)), (24, .int .i64 (y : Int)), (292, .agg cs.toArray), (293, .int .i64 (x : Int))]) (hown : ownsAt S V y x = false) :
    Code.wp Try.prog cSx (Exit.then (fun a' w' => EvSx qb fb vb cb ib y cs w51 s34 s35 s36 a' w' ∧ 80 - (intOf (a'.tmps.getD 293 undef)).toNat < 80 - (intOf (T.getD 293 undef)).toNat) (QK 20 (EdSx qb fb vb cb ib y w51 s34 s35 s36))) ⟨T, []⟩ wr := by
  have i1 : (y : Int) < 24 := by omega
  obtain ⟨f, hfT, hf⟩ := lit432 T hT
  obtain ⟨h3, h6, h7, h8, h9, h34, h35, h36, h285, h24, h292, h293, _⟩ := hk
  rw [hf] at h3 h6 h7 h8 h9 h34 h35 h36 h285 h24 h292 h293
  clear hf hT
  subst hfT
  conv => arg 2; whnf
  simp only [h3, h6, h7, h8, h9, h34, h35, h36, h285, h24, h292, h293]
  clear h3 h6 h7 h8 h9 h34 h35 h36 h285 h24 h292 h293
  have i2 : (x : Int) < 80 := by omega
  have hix := HCI.out x hxl
  have HKX : Hid (Kp no w8 wr) := HKN.out.trans kx
  have HHIT : Hid (∀ w', Kp no wr w' → Calls Try.prog 16 #[.pointer (some ⟨lb, 0, none⟩), .int .i64 (y : Int), .int .i64 (x : Int)] w' (HitPostK lb sb S V (y : Int) (x : Int) w')) := fun w' k' => by
    have kk := HKX.out.trans k'
    have hg := HG8.out.on kk
    exact hitK_at w' lb sb S V hg.sh hg.ok hg.lay (HCH.out.on kk) (y : Int) (x : Int)
  have HHO := hit_own (S := S) (V := V) hyl hxl
  have HON := HOO.out y x
  as_aux_lemma =>
    rw [if_neg (by rw [hown]; decide)] at HON
    have HHV := HHO.2 hown
    rw [HFO.out.zero y x hxl hown] at hix
    have hix' : ∀ Z : World, (Instr.index 53 (.agg cs.toArray) (.int .i64 (x : Int))).run Try.prog Z = .ok (.agg #[.bool false, .int .i64 0, .int .i64 0, .bool false, .int .i64 0, .int .i64 0, .int .u8 0]) Z := hix
    clear HHO hix
    obtain ⟨w56, hw56⟩ : ∃ w56, w56 = wr.alloc (.cells #[.bool false, .int .i64 0, .int .i64 0, .bool false, .int .i64 0, .int .i64 0, .int .u8 0] 52) := ⟨_, rfl⟩
    obtain ⟨b26, hb26⟩ : ∃ b26, b26 = wr.heap.size := ⟨_, rfl⟩
    have HS56 : Hid (SpotAt w56 b26 0 Spot.zero) := by
      show SpotAt _ _ _ _
      rw [hw56, hb26]
      refine ⟨?_, ?_, ?_, ?_, ?_, ?_, ?_⟩ <;> simp [Spot.zero]
    have HK56 : Hid (Kp no wr w56) := by show Kp _ _ _; rw [hw56]; exact (Kp.refl no wr).alloc _
    have HH56 := HHIT.out w56 HK56.out
    unfold HitPostK at HH56
    rw [HHV] at HH56
    have HHC : Hid (Calls Try.prog 16 #[.pointer (some ⟨lb, 0, none⟩), .int .i64 (y : Int), .int .i64 (x : Int)] w56 fun e w' => e = .returned (.tuple #[.agg #[.int .i64 (0 : Int), .int .i64 (0 : Int)], .bool false]) ∧ Kp no w56 w') := HH56.mono fun e w' h' => ⟨h'.1, h'.2.1⟩
    have q1 := (HG8.out.on (HKX.out.trans HK56.out)).q1
    clear HH56 HHV HHIT
    go_upto_region 57 with fail
    rw [← hw56, ← hb26]
    clear hw56 hb26 hix'
    go_wp2_with fail
    refine HHC.out.mono ?_
    rintro e w57 ⟨rfl, k57⟩
    obtain ⟨w58, hw58⟩ : ∃ w58, w58 = w57.alloc (.cells #[.int .i64 (0 : Int), .int .i64 (0 : Int)] 31) := ⟨_, rfl⟩
    obtain ⟨b27, hb27⟩ : ∃ b27, b27 = w57.heap.size := ⟨_, rfl⟩
    have HK58 : Hid (Kp no w56 w58) := by show Kp _ _ _; rw [hw58]; exact k57.alloc _
    have HT0 : Hid (w58.cell? ⟨b27, 0, none⟩ = some (.int .i64 (0 : Int)) ∧ w58.cell? ⟨b27, 1, none⟩ = some (.int .i64 (0 : Int))) := by
      show _ ∧ _
      rw [hw58, hb27]
      exact ⟨by simp, by simp⟩
    have HKE : Hid (Kp no w51 w58) := (kx.trans HK56.out).trans HK58.out
    have HKG : Hid (Kp no w8 w58) := HKN.out.trans HKE.out
    clear q1 HHC k57 kx
    go_upto_region 58 with fail
    rw [← hw58, ← hb27]
    clear hw58 hb27
    have HSQ : Hid (SpotAt w58 b26 0 Spot.zero) := HS56.out.same fun _ _ => World.cell?_of_block (w := w56) (HK58.out.block b26 (cell_lt HS56.out.c0) id)
    have c0 : ∀ p : KpOf w58, p.to.cell? ⟨b26, 0, none⟩ = some (.bool false) := fun p => p.h.cell (show w58.cell? ⟨b26, 0, none⟩ = some (.bool false) from HSQ.out.c0) id
    have c1 : ∀ p : KpOf w58, p.to.cell? ⟨b26, 1, none⟩ = some (.int .i64 (0 : Int)) := fun p => p.h.cell (show w58.cell? ⟨b26, 1, none⟩ = some (.int .i64 (0 : Int)) from HSQ.out.c1) id
    have c2 : ∀ p : KpOf w58, p.to.cell? ⟨b26, 2, none⟩ = some (.int .i64 (0 : Int)) := fun p => p.h.cell (show w58.cell? ⟨b26, 2, none⟩ = some (.int .i64 (0 : Int)) from HSQ.out.c2) id
    have c2' : ∀ p : KpOf w58, p.to.cell? ⟨b26, 1 + 1, none⟩ = some (.int .i64 (0 : Int)) := c2
    have t0 : ∀ p : KpOf w58, p.to.cell? ⟨b27, 0, none⟩ = some (.int .i64 (0 : Int)) := fun p => p.h.cell HT0.out.1 id
    have t1 : ∀ p : KpOf w58, p.to.cell? ⟨b27, 1, none⟩ = some (.int .i64 (0 : Int)) := fun p => p.h.cell HT0.out.2 id
    have z0 : ∀ p : KpOf w58, p.to.cell? ⟨cb, y * 80 + x, none⟩ = some (.int .i64 0) := fun p => by
      have h := (HCO.out.kp (HKE.out.trans p.h) id).at_ y x hyl hxl
      rw [HON] at h
      exact h
    have z1 : ∀ p : KpOf w58, p.to.cell? ⟨ib, y * 80 + x, none⟩ = some (.int .i64 0) := fun p => by
      have h := (HIO.out.kp (HKE.out.trans p.h) id).at_ y x hyl hxl
      rw [HON] at h
      exact h
    have hneq : ∀ Z : World, (binOp .neq 31 (.agg #[.int .i64 (0 : Int), .int .i64 (0 : Int)]) (.agg #[.int .i64 (0 : Int), .int .i64 (0 : Int)])).run Try.prog Z = .ok (.bool false) Z := fun Z => by
      have h := neq31 (0 : Int) (0 : Int) (0 : Int) (0 : Int) Z
      simpa using h
    go_cut [338] from 294 to 429 (fun s338 wx => s338 = .bool false ∧ Kp no w58 wx)
    case first =>
      as_aux_lemma =>
        refine wp_region_kp (by kernel_rfl) (by kernel_rfl) ?_
        repeat (go_big_quiet_step (fail))
        refine wpQuiet_nil ?_
        intro _ hw'
        obtain ⟨⟨wq, kq⟩, hw''⟩ := hw'
        subst hw''
        go_wp2_with fail
        go_meet
        exact ⟨rfl, kq⟩
    case rest =>
    obtain ⟨rfl, k59⟩ := hcut
    obtain ⟨w59, rfl⟩ : ∃ w59, w59 = wc := ⟨_, rfl⟩
    have HK59 : Hid (Kp no w51 w59) := HKE.out.trans k59
    have HKF : Hid (Kp no w8 w59) := HKG.out.trans k59
    have HS59 : Hid (SpotAt w59 b26 0 Spot.zero) := HSQ.out.same fun _ _ => World.cell?_of_block (w := w58) (k59.block b26 (cell_lt HSQ.out.c0) id)
    clear c0 c1 c2 c2' t0 t1 z0 z1 hneq k59 HON
    have c0 : w59.cell? ⟨b26, 0, none⟩ = some (.bool false) := HS59.out.c0
    have c1 : w59.cell? ⟨b26, 1, none⟩ = some (.int .i64 0) := HS59.out.c1
    have c2 : w59.cell? ⟨b26, 2, none⟩ = some (.int .i64 0) := HS59.out.c2
    have c3 : w59.cell? ⟨b26, 3, none⟩ = some (.bool false) := HS59.out.c3
    have c4 : w59.cell? ⟨b26, 4, none⟩ = some (.int .i64 0) := HS59.out.c4
    have c5 : w59.cell? ⟨b26, 5, none⟩ = some (.int .i64 0) := HS59.out.c5
    have c6 : w59.cell? ⟨b26, 6, none⟩ = some (.int .u8 0) := HS59.out.c6
    have hneq : ∀ Z : World, (binOp .neq 52 (.agg #[.bool false, .int .i64 0, .int .i64 0, .bool false, .int .i64 0, .int .i64 0, .int .u8 0]) (.agg #[.bool false, .int .i64 0, .int .i64 0, .bool false, .int .i64 0, .int .i64 0, .int .u8 0])).run Try.prog Z = .ok (.bool false) Z := fun Z => neq52z Z
    go_wp2_with fail
    refine ⟨⟨_, x + 1, rfl, by kernel_rfl, ⟨by kernel_rfl, by kernel_rfl, by kernel_rfl, by kernel_rfl, by kernel_rfl, by kernel_rfl, by kernel_rfl, by kernel_rfl, by kernel_rfl, by kernel_rfl, by kernel_rfl, Eq.trans (b := .int .i64 ((x : Int) + 1)) (by kernel_rfl) (by go_num), trivial⟩, by omega, HK59.out⟩, ?_⟩
    show 80 - (intOf (Value.int .i64 ((x : Int) + 1))).toNat < 80 - (intOf (Value.int .i64 (x : Int))).toNat
    simp [intOf]
    omega
end Go.Proofs.Qxb6500653a
