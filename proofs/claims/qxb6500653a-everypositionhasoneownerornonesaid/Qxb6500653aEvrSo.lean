/-
  EveryPosition (3): a position that a cell owns.
-/
import Derived.Test.Qxb6500653aEvrS0
import Derived.Test.Qxb6500653aKq
namespace Go.Proofs.Qxb6500653a
open Go.RowKit

set_option maxRecDepth 100000 in
set_option maxHeartbeats 400000000 in
theorem evr_so (sb lb x : Nat) (S : Sh) (V : Vw) (F : Nat → Nat → Spot) (O : Nat → Nat → Nat) (w8 wr : World) (qb fb vb cb ib y : Nat) (cs : List Value) (w51 : World) (s34 s35 s36 : Value)
    (HG8 : Hid (GameAt w8 qb sb lb S V)) (HCH : Hid (Cached w8 lb S V)) (HF8 : Hid (FrameAt w8 fb F)) (HFO : Hid (FOwn F S V)) (HKN : Hid (Kp no w8 w51)) (HCO : Hid (ArrAt w51 cb O)) (HIO : Hid (ArrAt w51 ib O)) (HOO : Hid (∀ y x, O y x = if ownsAt S V y x = true then 1 else 0))
    (HCI : Hid (∀ x : Nat, x < 80 → ∀ Z : World, (Instr.index 53 (.agg cs.toArray) (.int .i64 (x : Int))).run Try.prog Z = .ok (.agg #[.bool (F y x).own, .int .i64 ((F y x).oR : Int), .int .i64 ((F y x).oC : Int), .bool (F y x).drawn, .int .i64 ((F y x).fR : Int), .int .i64 ((F y x).fC : Int), .int .u8 ((F y x).ch : Int)]) Z))
    (hyl : y < 24) (hxl : x < 80) (kx : Kp no w51 wr) (T : Array Value) (hT : T.size = 432) (hk : Knows T [(3, .pointer (some ⟨qb, 0, none⟩)), (6, .pointer (some ⟨fb, 0, none⟩)), (7, .pointer (some ⟨vb, 0, none⟩)), (8, .pointer (some ⟨cb, 0, none⟩)), (9, .pointer (some ⟨ib, 0, none⟩)), (34, s34), (35, s35), (36, s36), (285, .int .i64 (y : Int)), (24, .int .i64 (y : Int)), (292, .agg cs.toArray), (293, .int .i64 (x : Int))]) (hown : ownsAt S V y x = true) :
    Code.wp Try.prog cSx (Exit.then (fun a' w' => EvSx qb fb vb cb ib y cs w51 s34 s35 s36 a' w' ∧ 80 - (intOf (a'.tmps.getD 293 undef)).toNat < 80 - (intOf (T.getD 293 undef)).toNat) (QK 20 (EdSx qb fb vb cb ib y w51 s34 s35 s36))) ⟨T, []⟩ wr := by
  have i1 : (y : Int) < 24 := by omega
  obtain ⟨f, hfT, hf⟩ := lit432 T hT
  obtain ⟨h3, h6, h7, h8, h9, h34, h35, h36, h285, h24, h292, h293, _⟩ := hk
  rw [hf] at h3 h6 h7 h8 h9 h34 h35 h36 h285 h24 h292 h293
  clear hf hT
  subst hfT
  conv => arg 2; whnf
  simp only [h3, h6, h7, h8, h9, h34, h35, h36, h285, h24, h292, h293]
  clear h3 h6 h7 h8 h9 h34 h35 h36 h285 h24 h292 h293
  have i2 : (x : Int) < 80 := by omega
  have hix := HCI.out x hxl
  have HKX : Hid (Kp no w8 wr) := HKN.out.trans kx
  have HHIT : Hid (∀ w', Kp no wr w' → Calls Try.prog 16 #[.pointer (some ⟨lb, 0, none⟩), .int .i64 (y : Int), .int .i64 (x : Int)] w' (HitPostK lb sb S V (y : Int) (x : Int) w')) := fun w' k' => by
    have kk := HKX.out.trans k'
    have hg := HG8.out.on kk
    exact hitK_at w' lb sb S V hg.sh hg.ok hg.lay (HCH.out.on kk) (y : Int) (x : Int)
  have HHO := hit_own (S := S) (V := V) hyl hxl
  have HON := HOO.out y x
  as_aux_lemma =>
    rw [if_pos hown] at HON
    have HHV := HHO.1 hown
    have o0 : (F y x).own = true := by rw [HFO.out.own y x hxl]; exact hown
    have o1 := HFO.out.row y x hxl hown
    have o2 := HFO.out.col y x hxl hown
    rw [o0, o1, o2] at hix
    have HAS : Hid (AreaShows S (rowAt S V y x) (colAt S V y x) (lnR S V y).toNat (lnC S V x).toNat) := area_shows HG8.out.ok HG8.out.vok hyl hxl hown
    have HLF : Hid (∀ x', x = x' + 1 → (F y x').own = true ∧ (F y x').oC ≤ colAt S V y x) := fun x' e => by
      subst e
      obtain ⟨g1, g2⟩ := own_left HG8.out.ok HG8.out.vok hxl hown
      exact ⟨by rw [HFO.out.own y x' (by omega)]; exact g1, by rw [HFO.out.col y x' (by omega) g1]; exact g2⟩
    have HUPP : Hid (∀ y', y = y' + 1 → (F y' x).own = true ∧ (F y' x).oR ≤ rowAt S V y x) := fun y' e => by
      subst e
      obtain ⟨g1, g2⟩ := own_up HG8.out.ok HG8.out.vok hyl hown
      exact ⟨by rw [HFO.out.own y' x hxl]; exact g1, by rw [HFO.out.row y' x hxl g1]; exact g2⟩
    clear HHO o0 o1 o2 hown
    generalize rowAt S V y x = oR at HHV hix HAS HLF HUPP
    generalize colAt S V y x = oC at HHV hix HAS HLF HUPP
    generalize (lnR S V y).toNat = ap at HAS
    generalize (lnC S V x).toNat = aq at HAS
    obtain ⟨dr, hdr⟩ : ∃ dr, (F y x).drawn = dr := ⟨_, rfl⟩
    obtain ⟨fR, hfR⟩ : ∃ fR, (F y x).fR = fR := ⟨_, rfl⟩
    obtain ⟨fC, hfC⟩ : ∃ fC, (F y x).fC = fC := ⟨_, rfl⟩
    obtain ⟨ch, hch⟩ : ∃ ch, (F y x).ch = ch := ⟨_, rfl⟩
    rw [hdr, hfR, hfC, hch] at hix
    clear hdr hfR hfC hch
    obtain ⟨w56, hw56⟩ : ∃ w56, w56 = wr.alloc (.cells #[.bool true, .int .i64 (oR : Int), .int .i64 (oC : Int), .bool dr, .int .i64 (fR : Int), .int .i64 (fC : Int), .int .u8 (ch : Int)] 52) := ⟨_, rfl⟩
    obtain ⟨b26, hb26⟩ : ∃ b26, b26 = wr.heap.size := ⟨_, rfl⟩
    have HS56 : Hid (SpotAt w56 b26 0 ⟨true, oR, oC, dr, fR, fC, ch⟩) := by
      show SpotAt _ _ _ _
      rw [hw56, hb26]
      exact ⟨by simp, by simp, by simp, by simp, by simp, by simp, by simp⟩
    have HK56 : Hid (Kp no wr w56) := by show Kp _ _ _; rw [hw56]; exact (Kp.refl no wr).alloc _
    have HH56 := HHIT.out w56 HK56.out
    unfold HitPostK at HH56
    rw [HHV] at HH56
    have HHC : Hid (Calls Try.prog 16 #[.pointer (some ⟨lb, 0, none⟩), .int .i64 (y : Int), .int .i64 (x : Int)] w56 fun e w' => e = .returned (.tuple #[.agg #[.int .i64 (oR : Int), .int .i64 (oC : Int)], .bool true]) ∧ Kp no w56 w') := HH56.mono fun e w' h' => ⟨h'.1, h'.2.1⟩
    have q1 := (HG8.out.on (HKX.out.trans HK56.out)).q1
    clear HH56 HHV HHIT
    go_upto_region 57 with fail
    rw [← hw56, ← hb26]
    clear hw56 hb26 hix
    go_wp2_with fail
    refine HHC.out.mono ?_
    rintro e w57 ⟨rfl, k57⟩
    obtain ⟨w58, hw58⟩ : ∃ w58, w58 = w57.alloc (.cells #[.int .i64 (oR : Int), .int .i64 (oC : Int)] 31) := ⟨_, rfl⟩
    obtain ⟨b27, hb27⟩ : ∃ b27, b27 = w57.heap.size := ⟨_, rfl⟩
    have HK58 : Hid (Kp no w56 w58) := by show Kp _ _ _; rw [hw58]; exact k57.alloc _
    have HT0 : Hid (w58.cell? ⟨b27, 0, none⟩ = some (.int .i64 (oR : Int)) ∧ w58.cell? ⟨b27, 1, none⟩ = some (.int .i64 (oC : Int))) := by
      show _ ∧ _
      rw [hw58, hb27]
      exact ⟨by simp, by simp⟩
    have HKE : Hid (Kp no w51 w58) := (kx.trans HK56.out).trans HK58.out
    have HKG : Hid (Kp no w8 w58) := HKN.out.trans HKE.out
    clear q1 HHC k57 kx
    go_upto_region 58 with fail
    rw [← hw58, ← hb27]
    clear hw58 hb27
    have HSQ : Hid (SpotAt w58 b26 0 ⟨true, oR, oC, dr, fR, fC, ch⟩) := HS56.out.same fun _ _ => World.cell?_of_block (w := w56) (HK58.out.block b26 (cell_lt HS56.out.c0) id)
    have c0 : ∀ p : KpOf w58, p.to.cell? ⟨b26, 0, none⟩ = some (.bool true) := fun p => p.h.cell (show w58.cell? ⟨b26, 0, none⟩ = some (.bool true) from HSQ.out.c0) id
    have c1 : ∀ p : KpOf w58, p.to.cell? ⟨b26, 1, none⟩ = some (.int .i64 (oR : Int)) := fun p => p.h.cell (show w58.cell? ⟨b26, 1, none⟩ = some (.int .i64 (oR : Int)) from HSQ.out.c1) id
    have c2 : ∀ p : KpOf w58, p.to.cell? ⟨b26, 2, none⟩ = some (.int .i64 (oC : Int)) := fun p => p.h.cell (show w58.cell? ⟨b26, 2, none⟩ = some (.int .i64 (oC : Int)) from HSQ.out.c2) id
    have c2' : ∀ p : KpOf w58, p.to.cell? ⟨b26, 1 + 1, none⟩ = some (.int .i64 (oC : Int)) := c2
    have t0 : ∀ p : KpOf w58, p.to.cell? ⟨b27, 0, none⟩ = some (.int .i64 (oR : Int)) := fun p => p.h.cell HT0.out.1 id
    have t1 : ∀ p : KpOf w58, p.to.cell? ⟨b27, 1, none⟩ = some (.int .i64 (oC : Int)) := fun p => p.h.cell HT0.out.2 id
    have z0 : ∀ p : KpOf w58, p.to.cell? ⟨cb, y * 80 + x, none⟩ = some (.int .i64 1) := fun p => by
      have h := (HCO.out.kp (HKE.out.trans p.h) id).at_ y x hyl hxl
      rw [HON] at h
      exact h
    have z1 : ∀ p : KpOf w58, p.to.cell? ⟨ib, y * 80 + x, none⟩ = some (.int .i64 1) := fun p => by
      have h := (HIO.out.kp (HKE.out.trans p.h) id).at_ y x hyl hxl
      rw [HON] at h
      exact h
    have hneq : ∀ Z : World, (binOp .neq 31 (.agg #[.int .i64 (oR : Int), .int .i64 (oC : Int)]) (.agg #[.int .i64 (oR : Int), .int .i64 (oC : Int)])).run Try.prog Z = .ok (.bool false) Z := fun Z => by
      have h := neq31 (oR : Int) (oC : Int) (oR : Int) (oC : Int) Z
      simpa using h
    go_cut [338] from 294 to 429 (fun s338 wx => s338 = .bool false ∧ Kp no w58 wx)
    case first =>
      as_aux_lemma =>
        refine wp_region_kp (by kernel_rfl) (by kernel_rfl) ?_
        repeat (go_big_quiet_step (fail))
        refine wpQuiet_nil ?_
        intro _ hw'
        obtain ⟨⟨wq, kq⟩, hw''⟩ := hw'
        subst hw''
        go_wp2_with fail
        go_meet
        exact ⟨rfl, kq⟩
    case rest =>
    obtain ⟨rfl, k59⟩ := hcut
    obtain ⟨w59, rfl⟩ : ∃ w59, w59 = wc := ⟨_, rfl⟩
    have HK59 : Hid (Kp no w51 w59) := HKE.out.trans k59
    have HKF : Hid (Kp no w8 w59) := HKG.out.trans k59
    have HS59 : Hid (SpotAt w59 b26 0 ⟨true, oR, oC, dr, fR, fC, ch⟩) := HSQ.out.same fun _ _ => World.cell?_of_block (w := w58) (k59.block b26 (cell_lt HSQ.out.c0) id)
    clear c0 c1 c2 c2' t0 t1 z0 z1 hneq k59 HON
    have HCALL : Hid (∀ w', Kp no w59 w' → Calls Try.prog 15 #[.pointer (some ⟨sb, 0, none⟩), .agg #[.int .i64 (oR : Int), .int .i64 (oC : Int)]] w' fun e w'' => e = .returned (.agg #[.int .i64 ((areaOf S oR oC).t : Int), .int .i64 ((areaOf S oR oC).l : Int), .int .i64 ((areaOf S oR oC).b : Int), .int .i64 ((areaOf S oR oC).r : Int)]) ∧ Kp no w' w'') := fun w' k' => by
      have hg := HG8.out.on (HKF.out.trans k')
      exact areaOf_at w' sb S hg.sh hg.ok oR oC
    have HVIS : Hid (∀ w', Kp no w59 w' → Calls Try.prog 17 #[.pointer (some ⟨sb, 0, none⟩), .agg #[.int .i64 ((areaOf S oR oC).t : Int), .int .i64 ((areaOf S oR oC).l : Int), .int .i64 ((areaOf S oR oC).b : Int), .int .i64 ((areaOf S oR oC).r : Int)]] w' fun e w'' => e = .returned (.bool true) ∧ Kp no w' w'') := fun w' k' => by
      have hg := HG8.out.on (HKF.out.trans k')
      exact visible_at w' sb S hg.sh (areaOf S oR oC) HAS.out.ok ap aq HAS.out.pin HAS.out.qin HAS.out.hp HAS.out.hq
    have HTL : Hid ((areaOf S oR oC).t = oR ∧ (areaOf S oR oC).l = oC) := ⟨HAS.out.t, HAS.out.l⟩
    generalize areaOf S oR oC = A at HCALL HVIS HTL
    clear HAS
    obtain ⟨At, Al, Ab, Arr⟩ := A
    obtain ⟨e1, e2⟩ : At = oR ∧ Al = oC := HTL.out
    subst e1 e2
    simp only at HCALL HVIS
    clear HTL
    have c0 : w59.cell? ⟨b26, 0, none⟩ = some (.bool true) := HS59.out.c0
    have c1 : w59.cell? ⟨b26, 1, none⟩ = some (.int .i64 (At : Int)) := HS59.out.c1
    have c2 : w59.cell? ⟨b26, 2, none⟩ = some (.int .i64 (Al : Int)) := HS59.out.c2
    have c2' : w59.cell? ⟨b26, 1 + 1, none⟩ = some (.int .i64 (Al : Int)) := c2
    have q0 := (HG8.out.on HKF.out).q0
    have hlq : qb < w59.heap.size := cell_lt q0
    have hlf : b26 < w59.heap.size := cell_lt c0
    go_upto_region 63 with fail
    go_cut [29] from 294 to 429 (fun s29 wx => ∃ b29, s29 = .pointer (some ⟨b29, 0, none⟩) ∧ VarAr w59 ⟨At, Al, Ab, Arr⟩ b29 wx)
    case first =>
      as_aux_lemma =>
        have HCM : Hid (∀ w'', Kp no w59 w'' → Calls Try.prog 15 #[.pointer (some ⟨sb, 0, none⟩), .agg #[.int .i64 (At : Int), .int .i64 (Al : Int)]] w'' fun e w3 => e = .returned (.agg #[.int .i64 (At : Int), .int .i64 (Al : Int), .int .i64 (Ab : Int), .int .i64 (Arr : Int)]) ∧ Kp no w'' w3 ∧ Kp no w59 w3) := fun w'' k'' => (HCALL.out w'' k'').mono fun e w3 h' => ⟨h'.1, h'.2, k''.trans h'.2⟩
        go_region_held3 (fun w' => w'.cell? ⟨qb, 0, none⟩ = some (.pointer (some ⟨sb, 0, none⟩)) ∧ w'.cell? ⟨b26, 1, none⟩ = some (.int .i64 (At : Int)) ∧ w'.cell? ⟨b26, 1 + 1, none⟩ = some (.int .i64 (Al : Int)) ∧ w'.cell? ⟨b26, 2, none⟩ = some (.int .i64 (Al : Int)))
          (refine ⟨?_, ?_, ?_, ?_⟩ <;> (first | (refine Kp.cell (X := no) (w := w59) ?_ q0 id; (repeat first | with_reducible assumption | with_reducible exact Kp.refl _ _ | with_reducible refine Kp.drew ?_ | with_reducible refine Kp.alloc ?_ _ | with_reducible refine Kp.setCell ?_ (fun h => absurd h (by first | (simp <;> omega) | omega)) _); done) | (refine Kp.cell (X := no) (w := w59) ?_ c1 id; (repeat first | with_reducible assumption | with_reducible exact Kp.refl _ _ | with_reducible refine Kp.drew ?_ | with_reducible refine Kp.alloc ?_ _ | with_reducible refine Kp.setCell ?_ (fun h => absurd h (by first | (simp <;> omega) | omega)) _); done) | (refine Kp.cell (X := no) (w := w59) ?_ c2' id; (repeat first | with_reducible assumption | with_reducible exact Kp.refl _ _ | with_reducible refine Kp.drew ?_ | with_reducible refine Kp.alloc ?_ _ | with_reducible refine Kp.setCell ?_ (fun h => absurd h (by first | (simp <;> omega) | omega)) _); done) | (refine Kp.cell (X := no) (w := w59) ?_ c2 id; (repeat first | with_reducible assumption | with_reducible exact Kp.refl _ _ | with_reducible refine Kp.drew ?_ | with_reducible refine Kp.alloc ?_ _ | with_reducible refine Kp.setCell ?_ (fun h => absurd h (by first | (simp <;> omega) | omega)) _); done)))
          (first | (go_at_call 15; refine (HCM.out _ (by first | exact (Kp.refl no _).drew | exact Kp.refl no _ | exact ((Kp.refl no _).alloc _).drew)).mono ?_; rintro e wm ⟨rfl, km, kim⟩; have z6 := kim.size; first | (have m8 := alloc4d km; obtain ⟨m0, m1, m2, m3, m4, m5, m6, m7⟩ := m8; have z7 : w59.heap.size + 1 ≤ wm.heap.size := (by have z8 := km.size; simpa using z8); have z9 : w59.heap.size < wm.heap.size := (by omega); have z10 : w59.heap.size ≠ wm.heap.size := (by omega)) | skip))
        all_goals go_wp2_with fail
        all_goals go_meet
        all_goals first
          | with_reducible exact ⟨_, rfl, VarAr.after ⟨At, Al, Ab, Arr⟩ km⟩
          | exact ⟨_, rfl, VarAr.before ⟨At, Al, Ab, Arr⟩ km⟩
    case rest =>
    obtain ⟨b29, rfl, hv⟩ := hcut
    obtain ⟨w63, rfl⟩ : ∃ w63, w63 = wc := ⟨_, rfl⟩
    have HV63 : Hid (VarAr w59 ⟨At, Al, Ab, Arr⟩ b29 w63) := hv
    have HK63 : Hid (Kp no w51 w63) := HK59.out.trans hv.kp
    have HKH : Hid (Kp no w8 w63) := HKF.out.trans hv.kp
    have HS63 : Hid (SpotAt w63 b26 0 ⟨true, At, Al, dr, fR, fC, ch⟩) := HS59.out.same fun _ _ => World.cell?_of_block (w := w59) (hv.kp.block b26 (cell_lt HS59.out.c0) id)
    clear hv c0 c1 c2 c2' q0 hlq hlf HCALL
    have c1 : ∀ p : KpOf w63, p.to.cell? ⟨b26, 1, none⟩ = some (.int .i64 (At : Int)) := fun p => p.h.cell (show w63.cell? ⟨b26, 1, none⟩ = some (.int .i64 (At : Int)) from HS63.out.c1) id
    have c2 : ∀ p : KpOf w63, p.to.cell? ⟨b26, 2, none⟩ = some (.int .i64 (Al : Int)) := fun p => p.h.cell (show w63.cell? ⟨b26, 2, none⟩ = some (.int .i64 (Al : Int)) from HS63.out.c2) id
    have c2' : ∀ p : KpOf w63, p.to.cell? ⟨b26, 1 + 1, none⟩ = some (.int .i64 (Al : Int)) := c2
    have r0 : ∀ p : KpOf w63, p.to.cell? ⟨b29, 0, none⟩ = some (.int .i64 (At : Int)) := fun p => p.h.cell HV63.out.c0 id
    have r1 : ∀ p : KpOf w63, p.to.cell? ⟨b29, 1, none⟩ = some (.int .i64 (Al : Int)) := fun p => p.h.cell HV63.out.c1 id
    have r2 : ∀ p : KpOf w63, p.to.cell? ⟨b29, 2, none⟩ = some (.int .i64 (Ab : Int)) := fun p => p.h.cell HV63.out.c2 id
    have r3 : ∀ p : KpOf w63, p.to.cell? ⟨b29, 3, none⟩ = some (.int .i64 (Arr : Int)) := fun p => p.h.cell HV63.out.c3 id
    have q0 : ∀ p : KpOf w63, p.to.cell? ⟨qb, 0, none⟩ = some (.pointer (some ⟨sb, 0, none⟩)) := fun p => p.h.cell (HG8.out.on HKH.out).q0 id
    have HVI2 : Hid (∀ p : KpOf w63, Calls Try.prog 17 #[.pointer (some ⟨sb, 0, none⟩), .agg #[.int .i64 (At : Int), .int .i64 (Al : Int), .int .i64 (Ab : Int), .int .i64 (Arr : Int)]] p.to fun e w'' => e = .returned (.bool true) ∧ Kp no p.to w'') := fun p => HVIS.out p.to (HV63.out.kp.trans p.h)
    have hneq : ∀ Z : World, (binOp .neq 31 (.agg #[.int .i64 (At : Int), .int .i64 (Al : Int)]) (.agg #[.int .i64 (At : Int), .int .i64 (Al : Int)])).run Try.prog Z = .ok (.bool false) Z := fun Z => by
      have h := neq31 (At : Int) (Al : Int) (At : Int) (Al : Int) Z
      simpa using h
    go_upto_region 64 with fail
    go_cut [368] from 294 to 429 (fun s368 wx => s368 = .bool false ∧ Kp no w63 wx)
    case first =>
      as_aux_lemma =>
        refine wp_region_kp (by kernel_rfl) (by kernel_rfl) ?_
        repeat (go_big_quiet_step (exact kp_of (HVI2.out _)))
        refine wpQuiet_nil ?_
        intro _ hw'
        obtain ⟨⟨wq, kq⟩, hw''⟩ := hw'
        subst hw''
        go_wp2_with fail
        go_meet
        exact ⟨rfl, kq⟩
    case rest =>
    obtain ⟨rfl, k64⟩ := hcut
    obtain ⟨w64, rfl⟩ : ∃ w64, w64 = wc := ⟨_, rfl⟩
    have HK64 : Hid (Kp no w51 w64) := HK63.out.trans k64
    have HKI : Hid (Kp no w8 w64) := HKH.out.trans k64
    have HS64 : Hid (SpotAt w64 b26 0 ⟨true, At, Al, dr, fR, fC, ch⟩) := HS63.out.same fun _ _ => World.cell?_of_block (w := w63) (k64.block b26 (cell_lt HS63.out.c0) id)
    clear k64 c1 c2 c2' r0 r1 r2 r3 q0 hneq HVI2 HVIS
    go_upto_region 66 with fail
    go_cut [398] from 294 to 429 (fun s398 wx => s398 = .bool false ∧ Kp no w64 wx)
    case first =>
      as_aux_lemma =>
        rcases Nat.eq_zero_or_pos x with h0 | h0
        · subst h0
          refine wp_region_kp (by kernel_rfl) (by kernel_rfl) ?_
          repeat (go_big_quiet_step (fail))
          refine wpQuiet_nil ?_
          intro _ hw'
          obtain ⟨⟨wq, kq⟩, hw''⟩ := hw'
          subst hw''
          go_wp2_with fail
          go_meet
          exact ⟨rfl, kq⟩
        · obtain ⟨x', rfl⟩ : ∃ x', x = x' + 1 := ⟨x - 1, by omega⟩
          obtain ⟨l1, l2⟩ := HLF.out x' rfl
          have hx' : x' < 80 := by omega
          have HSP : Hid (SpotAt w64 fb (y * 560 + x' * 7) (F y x')) := ((HF8.out.kp HKI.out id).line y hyl).at_ x' hx'
          have s0 : ∀ p : KpOf w64, p.to.cell? ⟨fb, y * 560 + x' * 7, none⟩ = some (.bool true) := fun p => by have h := HSP.out.c0; rw [l1] at h; exact p.h.cell h id
          have s2 : ∀ p : KpOf w64, p.to.cell? ⟨fb, y * 560 + x' * 7 + 2, none⟩ = some (.int .i64 ((F y x').oC : Int)) := fun p => p.h.cell HSP.out.c2 id
          have s2' : ∀ p : KpOf w64, p.to.cell? ⟨fb, y * 560 + x' * 7 + 1 + 1, none⟩ = some (.int .i64 ((F y x').oC : Int)) := s2
          have c2 : ∀ p : KpOf w64, p.to.cell? ⟨b26, 2, none⟩ = some (.int .i64 (Al : Int)) := fun p => p.h.cell (show w64.cell? ⟨b26, 2, none⟩ = some (.int .i64 (Al : Int)) from HS64.out.c2) id
          have c2' : ∀ p : KpOf w64, p.to.cell? ⟨b26, 1 + 1, none⟩ = some (.int .i64 (Al : Int)) := c2
          have i3 : (x' : Int) < 80 := by omega
          have i4 : (0 : Int) < (x' : Int) + 1 := by omega
          have i4' : (0 : Int) < ((x' + 1 : Nat) : Int) := by omega
          have i5 : ((x' + 1 : Nat) : Int) - 1 = (x' : Int) := by omega
          have t1 : ¬ (Al : Int) < ((F y x').oC : Int) := by omega
          have t1' : ¬ Al < (F y x').oC := by omega
          have t2 : decide ((Al : Int) < ((F y x').oC : Int)) = false := decide_eq_false t1
          generalize (F y x').oC = oL at s2 s2' t1 t1' t2
          clear l1 l2 i2 hxl
          refine wp_region_kp (by kernel_rfl) (by kernel_rfl) ?_
          repeat (go_big_quiet_step (fail))
          refine wpQuiet_nil ?_
          intro _ hw'
          obtain ⟨⟨wq, kq⟩, hw''⟩ := hw'
          subst hw''
          go_wp2_with fail
          go_meet
          exact ⟨rfl, kq⟩
    case rest =>
    obtain ⟨rfl, k66⟩ := hcut
    obtain ⟨w66, rfl⟩ : ∃ w66, w66 = wc := ⟨_, rfl⟩
    have HK66 : Hid (Kp no w51 w66) := HK64.out.trans k66
    have HKJ : Hid (Kp no w8 w66) := HKI.out.trans k66
    have HS66 : Hid (SpotAt w66 b26 0 ⟨true, At, Al, dr, fR, fC, ch⟩) := HS64.out.same fun _ _ => World.cell?_of_block (w := w64) (k66.block b26 (cell_lt HS64.out.c0) id)
    clear k66
    go_upto_region 68 with fail
    go_cut [428] from 294 to 429 (fun s428 wx => s428 = .bool false ∧ Kp no w66 wx)
    case first =>
      as_aux_lemma =>
        rcases Nat.eq_zero_or_pos y with h0 | h0
        · subst h0
          refine wp_region_kp (by kernel_rfl) (by kernel_rfl) ?_
          repeat (go_big_quiet_step (fail))
          refine wpQuiet_nil ?_
          intro _ hw'
          obtain ⟨⟨wq, kq⟩, hw''⟩ := hw'
          subst hw''
          go_wp2_with fail
          go_meet
          exact ⟨rfl, kq⟩
        · obtain ⟨y', rfl⟩ : ∃ y', y = y' + 1 := ⟨y - 1, by omega⟩
          obtain ⟨l1, l2⟩ := HUPP.out y' rfl
          have hy' : y' < 24 := by omega
          have HSP : Hid (SpotAt w66 fb (y' * 560 + x * 7) (F y' x)) := ((HF8.out.kp HKJ.out id).line y' hy').at_ x hxl
          have s0 : ∀ p : KpOf w66, p.to.cell? ⟨fb, y' * 560 + x * 7, none⟩ = some (.bool true) := fun p => by have h := HSP.out.c0; rw [l1] at h; exact p.h.cell h id
          have s1 : ∀ p : KpOf w66, p.to.cell? ⟨fb, y' * 560 + x * 7 + 1, none⟩ = some (.int .i64 ((F y' x).oR : Int)) := fun p => p.h.cell HSP.out.c1 id
          have c1 : ∀ p : KpOf w66, p.to.cell? ⟨b26, 1, none⟩ = some (.int .i64 (At : Int)) := fun p => p.h.cell (show w66.cell? ⟨b26, 1, none⟩ = some (.int .i64 (At : Int)) from HS66.out.c1) id
          have i3 : (y' : Int) < 24 := by omega
          have i4 : (0 : Int) < (y' : Int) + 1 := by omega
          have i4' : (0 : Int) < ((y' + 1 : Nat) : Int) := by omega
          have i5 : ((y' + 1 : Nat) : Int) - 1 = (y' : Int) := by omega
          have t1 : ¬ (At : Int) < ((F y' x).oR : Int) := by omega
          have t1' : ¬ At < (F y' x).oR := by omega
          have t2 : decide ((At : Int) < ((F y' x).oR : Int)) = false := decide_eq_false t1
          generalize (F y' x).oR = oU at s1 t1 t1' t2
          clear l1 l2 i1 hyl
          refine wp_region_kp (by kernel_rfl) (by kernel_rfl) ?_
          repeat (go_big_quiet_step (fail))
          refine wpQuiet_nil ?_
          intro _ hw'
          obtain ⟨⟨wq, kq⟩, hw''⟩ := hw'
          subst hw''
          go_wp2_with fail
          go_meet
          exact ⟨rfl, kq⟩
    case rest =>
    obtain ⟨rfl, k68⟩ := hcut
    have HK68 : Hid (Kp no w51 wc) := HK66.out.trans k68
    clear k68
    go_wp2_with fail
    refine ⟨⟨_, x + 1, rfl, by kernel_rfl, ⟨by kernel_rfl, by kernel_rfl, by kernel_rfl, by kernel_rfl, by kernel_rfl, by kernel_rfl, by kernel_rfl, by kernel_rfl, by kernel_rfl, by kernel_rfl, by kernel_rfl, Eq.trans (b := .int .i64 ((x : Int) + 1)) (by kernel_rfl) (by go_num), trivial⟩, by omega, HK68.out⟩, ?_⟩
    show 80 - (intOf (Value.int .i64 ((x : Int) + 1))).toNat < 80 - (intOf (Value.int .i64 (x : Int))).toNat
    simp [intOf]
    omega
end Go.Proofs.Qxb6500653a
