/-
  paintLine (44): the walk.
-/
import Derived.Test.Qxb6500653aPaintSt
import Derived.Deep.RegionHeld3
import Derived.Laws.Cover1
namespace Go.Proofs.Qxb6500653a
open Go.RowKit

theorem boo_ne {X : Nat → Prop} {w : World} {b : Nat} {v : Value} (h : Boo X w) (hc : w.cell? ⟨b, 0, none⟩ = some v) (hv : ∀ t, v ≠ .bool t) : ¬ X b := fun hx => by
  obtain ⟨t, ht⟩ := h b hx
  rw [hc] at ht
  exact hv t (Option.some.inj ht)
theorem boo_on {w w' : World} {g off : Nat} {L : Nat → Spot} (h : LineAt w' g off L) (hp : LinePut g off w w') (hb : Boo (one g) w) : Boo (one g) w' := fun b e => by
  have hb0 := hb b e
  have e' : b = g := e
  subst e'
  rcases Nat.eq_zero_or_pos off with h0 | h0
  · subst h0; exact ⟨_, (h.at_ 0 (by omega)).c0⟩
  · obtain ⟨t, ht⟩ := hb0
    exact ⟨t, (hp.out 0 (Or.inl h0)).trans ht⟩
theorem home_any (w : World) (ab : Nat) (A : Ax) (hA : AxAt w ab A) (hok : A.Ok) (f t : Nat) (hft : f ≤ t) (ht : t < A.n) :
    Calls Try.prog 57 #[.pointer (some ⟨ab, 0, none⟩), .int .i64 (f : Int), .int .i64 (t : Int)] w fun e w' => e = .returned (.tuple #[.pointer (some ⟨ab, 2 + homeI A f t * 4, none⟩), .int .i64 (A.spanB (homeI A f t) f t).1, .int .i64 (A.spanB (homeI A f t) f t).2]) ∧ ∃ q, w' = w.drewN q := by
  by_cases h : A.in0 f t
  · have e : homeI A f t = 0 := by unfold homeI; rw [if_pos h]
    rw [e]
    exact home_zero w ab A hA hok f t hft ht h
  · have e : homeI A f t = 1 := by unfold homeI; rw [if_neg h]
    rw [e]
    exact home_one w ab A hA hok f t hft ht h
theorem homeI_lt (A : Ax) (f t : Nat) : homeI A f t < 2 := by unfold homeI; split <;> omega
theorem textLine_any (w : World) (ab : Nat) (A : Ax) (hA : AxAt w ab A) (hok : A.Ok) (f t : Nat) (hft : f ≤ t) (ht : t < A.n) :
    Calls Try.prog 45 #[.pointer (some ⟨ab, 0, none⟩), .int .i64 (f : Int), .int .i64 (t : Int)] w fun e w' => e = .returned (.tuple #[.int .i64 (tlY A f t), .bool (tlOk A f t)]) ∧ Kp no w w' := by
  obtain ⟨-, -, c2, c3⟩ := band_cells hA (homeI_lt A f t) rfl
  exact (text_gen w ab (2 + homeI A f t * 4) f t _ _ _ _ (home_any w ab A hA hok f t hft ht) c2 c3).mono fun _ _ ⟨he, q, hw⟩ => ⟨he, by rw [hw]; exact (Kp.refl _ _).drewN q⟩

/-- a stretch is never turned round, and small -/
theorem span_le {n m fz sc : Nat} {sz : Nat → Nat} (ok : SzOk n m fz sc sz) (zb tb lb : Nat) (l : Nat → Int) (i f t : Nat) (hft : f ≤ t) :
    -10000 ≤ ((ax0 n m fz sc sz zb tb lb l).spanB i f t).1 ∧ ((ax0 n m fz sc sz zb tb lb l).spanB i f t).1 ≤ ((ax0 n m fz sc sz zb tb lb l).spanB i f t).2 ∧ ((ax0 n m fz sc sz zb tb lb l).spanB i f t).2 ≤ 11000 := by
  have hok := ok.ok zb tb lb l
  have b1 := hok.st
  have b2 := hok.sz
  have hst : (ax0 n m fz sc sz zb tb lb l).st = stOf m fz sc sz := rfl
  have hsz : (ax0 n m fz sc sz zb tb lb l).sz = sz := rfl
  have hfz : (ax0 n m fz sc sz zb tb lb l).fz = fz := rfl
  rw [hst] at b1
  rw [hsz] at b2
  unfold Ax.spanB
  by_cases h0 : i = 0
  · rw [if_pos h0]
    unfold Ax.span0
    rw [hst, hsz, hfz]
    by_cases h : f < fz
    · rw [if_pos h]
      have q1 := b1 f
      have q2 := b1 (min t (fz - 1))
      have q3 := b2 (min t (fz - 1))
      refine ⟨q1.1, ?_, by show stOf m fz sc sz (min t (fz - 1)) + ((sz (min t (fz - 1)) : Nat) : Int) ≤ 11000; omega⟩
      show stOf m fz sc sz f ≤ stOf m fz sc sz (min t (fz - 1)) + ((sz (min t (fz - 1)) : Nat) : Int)
      unfold stOf
      rw [if_pos h, if_pos (by omega)]
      have := sums_mono sz (show f ≤ min t (fz - 1) by omega)
      omega
    · rw [if_neg h]; exact ⟨by decide, by decide, by decide⟩
  · rw [if_neg h0]
    unfold Ax.span1
    rw [hst, hsz, hfz]
    by_cases h : fz ≤ t
    · rw [if_pos h]
      have q1 := b1 (max f fz)
      have q2 := b1 t
      have q3 := b2 t
      refine ⟨q1.1, ?_, by show stOf m fz sc sz t + ((sz t : Nat) : Int) ≤ 11000; omega⟩
      show stOf m fz sc sz (max f fz) ≤ stOf m fz sc sz t + ((sz t : Nat) : Int)
      unfold stOf
      rw [if_neg (by omega), if_neg (by omega)]
      have := sums_mono sz (show max f fz ≤ t by omega)
      omega
    · rw [if_neg h]; exact ⟨by decide, by decide, by decide⟩

/-- the merges' slice -/
theorem mv_shape {w : World} {sb : Nat} {S : Sh} (h : SheetAt w sb S) : ∃ (ma : Option Addr) (cap : Nat), S.mv = .slice ma S.mg.length cap ∧ ∀ (k : Nat) (a : Ar), S.mg[k]? = some a → ∃ mb, ma = some ⟨mb, 0, none⟩ ∧ ∀ w', SheetAt w' sb S →
    w'.cell? ⟨mb, k * 4, none⟩ = some (.int .i64 (a.t : Int)) ∧ w'.cell? ⟨mb, k * 4 + 1, none⟩ = some (.int .i64 (a.l : Int)) ∧ w'.cell? ⟨mb, k * 4 + 2, none⟩ = some (.int .i64 (a.b : Int)) ∧ w'.cell? ⟨mb, k * 4 + 3, none⟩ = some (.int .i64 (a.r : Int)) := by
  rcases h.mrow.2 with ⟨e, hn⟩ | ⟨mb, cap, cur, e, _⟩
  · refine ⟨none, 0, by rw [e, hn], fun k a ha => ?_⟩
    rw [List.length_eq_zero_iff.1 hn] at ha
    simp at ha
  · refine ⟨some ⟨mb, 0, none⟩, cap, e, fun k a ha => ⟨mb, rfl, fun w' h' => ?_⟩⟩
    have hk := (List.getElem?_eq_some_iff.1 ha).1
    obtain ⟨f0, f1, f2, f3⟩ := flatA_get S.mg k a ha
    have hr := h'.mrow
    rw [e] at hr
    exact ⟨(hr.cellAt _ (by omega)).trans f0, (hr.cellAt _ (by omega)).trans f1, (hr.cellAt _ (by omega)).trans f2, (hr.cellAt _ (by omega)).trans f3⟩

set_option maxRecDepth 100000 in
set_option maxHeartbeats 4000000 in
theorem paint_at (hdr : DrawRowOk) (w : World) (g off : Nat) (L : Nat → Spot) (hl : LineAt w g off L) (hg0 : ∃ b, w.cell? ⟨g, 0, none⟩ = some (.bool b)) (lb sb rb cb : Nat) (S : Sh) (V : Vw) (hsh : SheetAt w sb S) (hsrc : w.cell? ⟨lb, 0, none⟩ = some (srcV sb)) (hax : AxesAt w rb cb S V) (hS : S.Ok) (hV : V.Ok)
    (y x0 x1 : Nat) (hy : y < 24) (hx : x0 < x1) (hx1 : x1 ≤ 80) :
    Calls Try.prog 44 #[.pointer (some ⟨lb, 0, none⟩), .slice (some ⟨g, off, none⟩) 80 80, .int .i64 (y : Int), .pointer (some ⟨rb, 0, none⟩), .pointer (some ⟨cb, 0, none⟩), .int .i64 (x0 : Int), .int .i64 (x1 : Int)] w
      fun e w' => e = .returned (.tuple #[]) ∧ LineAt w' g off (paintOf S V y x0 x1 L) ∧ LinePut g off w w' := by
  have HB : Hid (Boo (one g) w) := fun b hb => by subst hb; exact hg0
  have HEnv : Hid (∀ w', Kp (one g) w w' → SheetAt w' sb S ∧ AxesAt w' rb cb S V ∧ w'.cell? ⟨lb, 0, none⟩ = some (srcV sb)) := fun w' k => ⟨hsh.far k HB.out.far, hax.far k HB.out.far, k.cell hsrc (boo_ne HB.out hsrc fun _ e => (by cases e))⟩
  obtain ⟨hclr, hlc, hpc⟩ := clear_line hl hx hx1 (80 - x0)
  generalize w.setCells g (off + x0 * 7) (zeros (x1 - x0)) = wC at hclr hlc hpc
  have i1 : (x0 : Int) ≤ (x1 : Int) := by omega
  have i2 : (x1 : Int) ≤ 80 := by omega
  obtain ⟨hshC, haxC, hsrcC⟩ := HEnv.out wC hpc.kp
  obtain ⟨a1, a2, a3, hrow⟩ := haxC.row
  have r10 : wC.cell? ⟨rb, 10, none⟩ = some (.slice (some ⟨a3, 0, none⟩) 24 24) := hrow.c10
  have rl : wC.cell? ⟨a3, y, none⟩ = some (.int .i64 (lnR S V y)) := hrow.cl y hy
  have i3 : (y : Int) < 24 := by omega
  clear hshC haxC hsrcC hrow hl hsh hax hsrc hg0
  rcases lnR_cases S V y with hr | ⟨r, hr64, hr⟩
  · have HF : Hid (paintOf S V y x0 x1 L = struck L x0 x1) := by show _ = _; unfold paintOf; rw [if_pos (by rw [hr]; decide)]
    rw [hr] at rl
    clear hr
    go_enter Try.func44, Try.ntmps44
    go_wp2_with fail
    exact bodyPost_ret (results_none rfl _ _ _) rfl ⟨rfl, by rw [HF.out]; exact hlc, hpc⟩
  · have HF : Hid (paintOf S V y x0 x1 L = mergeLine S V y x0 x1 (textLine2 S V r y x0 x1 (ownLine S V r x0 x1 (struck L x0 x1))) S.mg.length) := by show _ = _; unfold paintOf; rw [if_neg (by rw [hr]; omega), hr, Int.toNat_natCast]
    rw [hr] at rl
    clear hr
    go_enter Try.func44, Try.ntmps44
    go_wp2_with fail
    clear r10 rl hclr
    go_loopw [15] (fun xv wr => ∃ x : Nat, x0 ≤ x ∧ x ≤ x1 ∧ xv = .int .i64 (x : Int) ∧ LineAt wr g off (ownLine S V r x0 x (struck L x0 x1)) ∧ LinePut g off w wr) (fun xv _ => x1 - (intOf xv).toNat)
    case atStart => exact ⟨x0, Nat.le_refl _, Nat.le_of_lt hx, rfl, hlc.cong (fun q _ => by unfold ownLine; rw [if_neg (by omega)]), hpc⟩
    case round =>
      clear hlc hpc
      obtain ⟨x, hxa, hxb, rfl, hl, hp⟩ := hrel
      obtain ⟨hshR, haxR, hsrcR⟩ := HEnv.out wr hp.kp
      by_cases hlt : x < x1
      · obtain ⟨q1, q2, q3, hcol⟩ := haxR.col
        have c10 : wr.cell? ⟨cb, 10, none⟩ = some (.slice (some ⟨q3, 0, none⟩) 80 80) := hcol.c10
        have cl : wr.cell? ⟨q3, x, none⟩ = some (.int .i64 (lnC S V x)) := hcol.cl x (by show x < 80; omega)
        have i5 : (x : Int) < 80 := by omega
        have hx80 : x < 80 := by omega
        rcases lnC_cases S V x with hc | ⟨c, hc26, hc⟩
        · have HS : Hid (∀ q, ownLine S V r x0 (x + 1) (struck L x0 x1) q = ownLine S V r x0 x (struck L x0 x1) q) := fun q => by
            unfold ownLine
            by_cases e : q = x
            · subst e; rw [if_neg (by rw [hc]; omega), if_neg (by omega)]
            · have y : (x0 ≤ q ∧ q < x + 1 ∧ 0 ≤ lnC S V q) ↔ (x0 ≤ q ∧ q < x ∧ 0 ≤ lnC S V q) := by omega
              simp only [y]
          rw [hc] at cl
          clear hc hcol
          go_wp2_with fail
          go_roundw
          case rel => exact ⟨x + 1, by omega, by omega, by go_num, hl.cong (fun q _ => (HS.out q).symm), hp⟩
          case measure => simp [intOf]; omega
        · have HS : Hid (∀ q, ownLine S V r x0 (x + 1) (struck L x0 x1) q = if q = x then { ownLine S V r x0 x (struck L x0 x1) x with own := true, oR := ownR S.mg r c, oC := ownC S.mg r c } else ownLine S V r x0 x (struck L x0 x1) q) := fun q => by
            unfold ownLine
            by_cases e : q = x
            · subst e
              rw [if_pos ⟨hxa, by omega, by rw [hc]; omega⟩, if_pos rfl, if_neg (by omega), hc, Int.toNat_natCast]
            · have y : (x0 ≤ q ∧ q < x + 1 ∧ 0 ≤ lnC S V q) ↔ (x0 ≤ q ∧ q < x ∧ 0 ≤ lnC S V q) := by omega
              rw [if_neg e]
              simp only [y]
          rw [hc] at cl
          have HO := owner_at wr lb sb S hshR hS hsrcR r c
          generalize ownR S.mg r c = oR at *
          generalize ownC S.mg r c = oC at *
          unfold addrV at HO
          have HOW : Hid (Calls Try.prog 36 #[.pointer (some ⟨lb, 0, none⟩), .agg #[.int .i64 (r : Int), .int .i64 (c : Int)]] wr fun e w' => e = .returned (.agg #[.int .i64 (oR : Int), .int .i64 (oC : Int)]) ∧ Kp no wr w') := HO
          clear hc hcol HO
          go_wp2_with fail
          refine HOW.out.mono ?_
          rintro e w5 ⟨rfl, k5⟩
          have hl5 := hl.on k5
          have hp5 : LinePut g off w w5 := hp.trans (LinePut.of_no k5 hl.lt)
          have hs5 := hl5.at_ x hx80
          have d0 := hs5.c0
          have d1 := hs5.c1
          have d2 := hs5.c2
          have f0 := hl5.free (off + x * 7)
          have f1 := hl5.free (off + x * 7 + 1)
          have f2 := hl5.free (off + x * 7 + 2)
          obtain ⟨g1, g2⟩ := hl5.owner hx80 oR oC
          clear c10 cl hl hp
          go_wp2_with fail
          go_roundw
          case rel => exact ⟨x + 1, by omega, by omega, by go_num, g1.cong (fun q _ => (HS.out q).symm), hp5.trans g2⟩
          case measure => simp [intOf]; omega
      · have hx' : x1 = x := by omega
        subst hx'
        obtain ⟨a1, a2, a3, hrow⟩ := haxR.row
        have s1 : wr.cell? ⟨rb, 1, none⟩ = some (.slice (some ⟨a2, 0, none⟩) 64 64) := hrow.c1
        have s2 : wr.cell? ⟨a2, r, none⟩ = some (.int .i64 ((rowAx S V 0 0 0).st r)) := hrow.ct r (by show r < 64; omega)
        have i6 : (r : Int) < 64 := by omega
        have HT2 : Hid (∀ M, textLine2 S V r y x0 x1 M = if (rowAx S V 0 0 0).st r = (y : Int) then rowAll S V 1 r x0 x1 (rowAll S V 0 r x0 x1 M) else M) := fun _ => rfl
        generalize (rowAx S V 0 0 0).st r = sr at *
        clear hrow
        go_upto_if 76 with fail
        go_cut [] (fun wx => LineAt wx g off (textLine2 S V r y x0 x1 (ownLine S V r x0 x1 (struck L x0 x1))) ∧ LinePut g off w wx)
        case first =>
          by_cases hsr : sr = (y : Int)
          · have hse : (sr == (y : Int)) = true := by simp [hsr]
            have HT3 : Hid (textLine2 S V r y x0 x1 (ownLine S V r x0 x1 (struck L x0 x1)) = rowAll S V 1 r x0 x1 (rowAll S V 0 r x0 x1 (ownLine S V r x0 x1 (struck L x0 x1)))) := by show _ = _; rw [HT2.out, if_pos hsr]
            have hbo0 : ∃ b, wr.cell? ⟨g, 0, none⟩ = some (.bool b) := boo_on hl hp HB.out g rfl
            have HD0 := hdr wr g off _ hl hbo0 lb sb cb S V hshR hsrcR haxR.col hS hV 0 2 (by decide) rfl r x0 x1 hr64 hx1
            clear hsr s1 s2
            go_wp2_with fail
            refine HD0.mono ?_
            rintro e w5 ⟨rfl, hl5, hp5⟩
            have hp5' := hp.trans hp5
            obtain ⟨hsh5, hax5, hsrc5⟩ := HEnv.out w5 hp5'.kp
            have hbo5 : ∃ b, w5.cell? ⟨g, 0, none⟩ = some (.bool b) := boo_on hl5 hp5' HB.out g rfl
            have HD1 := hdr w5 g off _ hl5 hbo5 lb sb cb S V hsh5 hsrc5 hax5.col hS hV 1 6 (by decide) rfl r x0 x1 hr64 hx1
            go_wp2_with fail
            refine HD1.mono ?_
            rintro e w6 ⟨rfl, hl6, hp6⟩
            go_wp2_with fail
            go_meet
            exact ⟨by rw [HT3.out]; exact hl6, hp5'.trans hp6⟩
          · have hse : (sr == (y : Int)) = false := by simp [hsr]
            have HT3 : Hid (textLine2 S V r y x0 x1 (ownLine S V r x0 x1 (struck L x0 x1)) = ownLine S V r x0 x1 (struck L x0 x1)) := by show _ = _; rw [HT2.out, if_neg hsr]
            clear hsr s1 s2
            go_wp2_with fail
            go_meet
            exact ⟨by rw [HT3.out]; exact hl, hp⟩
        case rest =>
          obtain ⟨hl7, hp7⟩ := hcut
          obtain ⟨w7, rfl⟩ : ∃ w7, w7 = wc := ⟨_, rfl⟩
          clear s1 s2 hl hp hshR haxR hsrcR
          generalize textLine2 S V r y x0 x1 (ownLine S V r x0 x1 (struck L x0 x1)) = M0 at *
          obtain ⟨hsh7, hax7, hsrc7⟩ := HEnv.out w7 hp7.kp
          obtain ⟨ma, cap, hmv, hmc⟩ := mv_shape hsh7
          have HMC := (show Hid _ from hmc)
          have hm : ∀ w : World, (method 271 38 (.pointer (some ⟨sb, 0, none⟩)) "Merges").run Try.prog w = .ok (91, .pointer (some ⟨sb, 0, none⟩)) w := fun _ => by kernel_rfl
          have HMg : Hid (Calls Try.prog 91 #[.pointer (some ⟨sb, 0, none⟩)] w7 fun e w' => e = .returned (.slice ma S.mg.length cap) ∧ w' = w7) := by
            have := merges_at w7 sb S hsh7
            rw [hmv] at this
            exact this
          have s0 : w7.cell? ⟨lb, 0, none⟩ = some (.iface 38 (.pointer (some ⟨sb, 0, none⟩))) := hsrc7
          have h32 := hS.few
          clear hmv hmc hsh7 hax7 hsrc7
          go_wp2_with fail
          refine HMg.out.mono ?_
          rintro e w8 ⟨rfl, rfl⟩
          go_wp2_with fail
          clear s0 HMg
          go_loopw [105] (fun kv wr => ∃ k : Nat, k ≤ S.mg.length ∧ kv = .int .i64 (k : Int) ∧ LineAt wr g off (mergeLine S V y x0 x1 M0 k) ∧ LinePut g off w wr) (fun kv _ => S.mg.length - (intOf kv).toNat)
          case atStart => exact ⟨0, Nat.zero_le _, rfl, hl7, hp7⟩
          case round =>
            clear hl7 hp7
            obtain ⟨k, hk, rfl, hl, hp⟩ := hrel
            by_cases hklt : k < S.mg.length
            · obtain ⟨a, ha⟩ : ∃ a, S.mg[k]? = some a := ⟨_, List.getElem?_eq_getElem hklt⟩
              obtain ⟨mb, rfl, hcell⟩ := HMC.out k a ha
              obtain ⟨hshR, haxR, hsrcR⟩ := HEnv.out wr hp.kp
              obtain ⟨c0, c1, c2, c3⟩ := hcell wr hshR
              have hao := hS.each a (List.mem_of_getElem? ha)
              have HML : Hid (mergeLine S V y x0 x1 M0 (k + 1) = mergeStep S V y x0 x1 (mergeLine S V y x0 x1 M0 k) a) := by show _ = _; simp only [mergeLine, ha]
              generalize mergeLine S V y x0 x1 M0 k = Mk at *
              obtain ⟨w8, hw8⟩ : ∃ w8, w8 = wr.alloc (.cells #[.int .i64 (a.t : Int), .int .i64 (a.l : Int), .int .i64 (a.b : Int), .int .i64 (a.r : Int)] 56) := ⟨_, rfl⟩
              obtain ⟨b18, hb18⟩ : ∃ b18, b18 = wr.heap.size := ⟨_, rfl⟩
              have k8 : Kp no wr w8 := by rw [hw8]; exact (Kp.refl _ _).alloc _
              obtain ⟨d0, d1, d2, d3⟩ : w8.cell? ⟨b18, 0, none⟩ = some (.int .i64 (a.t : Int)) ∧ w8.cell? ⟨b18, 1, none⟩ = some (.int .i64 (a.l : Int)) ∧ w8.cell? ⟨b18, 2, none⟩ = some (.int .i64 (a.b : Int)) ∧ w8.cell? ⟨b18, 3, none⟩ = some (.int .i64 (a.r : Int)) := by
                subst hw8 hb18
                exact ⟨by simp, by simp, by simp, by simp⟩
              clear ha hcell
              go_upto_region 15 with fail
              rw [← hb18, ← hw8]
              clear hb18 hw8 c0 c1 c2 c3
              have HTL : Hid (Calls Try.prog 45 #[.pointer (some ⟨rb, 0, none⟩), .int .i64 (a.t : Int), .int .i64 (a.b : Int)] w8 fun e w' => e = .returned (.tuple #[.int .i64 (tlY (rowAx S V 0 0 0) a.t a.b), .bool (tlOk (rowAx S V 0 0 0) a.t a.b)]) ∧ Kp no w8 w') := by
                obtain ⟨q1, q2, q3, hrow⟩ := (haxR.on k8).row
                exact textLine_any w8 rb _ hrow ((rowOk hS hV).ok _ _ _ _) a.t a.b hao.tb hao.b
              have HMS : Hid (∀ M, mergeStep S V y x0 x1 M a = if tlOk (rowAx S V 0 0 0) a.t a.b = true ∧ tlY (rowAx S V 0 0 0) a.t a.b = (y : Int) then mergeStep S V y x0 x1 M a else M) := fun M => by
                by_cases h : tlOk (rowAx S V 0 0 0) a.t a.b = true ∧ tlY (rowAx S V 0 0 0) a.t a.b = (y : Int)
                · rw [if_pos h]
                · rw [if_neg h]; unfold mergeStep; rw [if_neg h]
              have HTY : Hid (∀ M, tlOk (rowAx S V 0 0 0) a.t a.b = true ∧ tlY (rowAx S V 0 0 0) a.t a.b = (y : Int) → mergeStep S V y x0 x1 M a = drawOn M a.t a.l (placeT (shown S.es a.t a.l) ((colAx S V 0 0 0).spanB (homeI (colAx S V 0 0 0) a.l a.r) a.l a.r).1 ((colAx S V 0 0 0).spanB (homeI (colAx S V 0 0 0) a.l a.r) a.l a.r).2)
      (placeS (shown S.es a.t a.l) ((colAx S V 0 0 0).spanB (homeI (colAx S V 0 0 0) a.l a.r) a.l a.r).1 ((colAx S V 0 0 0).spanB (homeI (colAx S V 0 0 0) a.l a.r) a.l a.r).2)
      (max (max ((colAx S V 0 0 0).spanB (homeI (colAx S V 0 0 0) a.l a.r) a.l a.r).1 ((colAx S V 0 0 0).bLo (homeI (colAx S V 0 0 0) a.l a.r))) x0)
      (min (min ((colAx S V 0 0 0).spanB (homeI (colAx S V 0 0 0) a.l a.r) a.l a.r).2 ((colAx S V 0 0 0).bHi (homeI (colAx S V 0 0 0) a.l a.r))) x1)) := fun M h => by show (if _ then _ else _) = _; rw [if_pos h]
              generalize tlOk (rowAx S V 0 0 0) a.t a.b = ok at *
              generalize tlY (rowAx S V 0 0 0) a.t a.b = ty at *
              have hl8 := hl.on k8
              have hp8 : LinePut g off w w8 := hp.trans (LinePut.of_no k8 hl.lt)
              clear hl hp hshR haxR hsrcR
              go_wp2_with fail
              refine HTL.out.mono ?_
              rintro e w9 ⟨rfl, k9⟩
              have hl9 := hl8.on k9
              have hp9 : LinePut g off w w9 := hp8.trans (LinePut.of_no k9 hl8.lt)
              have e0 := k9.cell d0 id
              have e1 := k9.cell d1 id
              have e2 := k9.cell d2 id
              have e3 := k9.cell d3 id
              clear hl8 hp8 d0 d1 d2 d3 k8 k9 HTL
              cases ok with
              | false =>
                have HS2 : Hid (mergeLine S V y x0 x1 M0 (k + 1) = Mk) := by show _ = _; rw [HML.out, HMS.out, if_neg (by simp)]
                go_wp2_with fail
                go_roundw
                case rel => exact ⟨k + 1, by omega, by go_num, by rw [HS2.out]; exact hl9, hp9⟩
                case measure => simp [intOf]; omega
              | true =>
                by_cases hty : ty = (y : Int)
                · have htn : (ty != (y : Int)) = false := by simp [hty]
                  have HS2 := HTY.out Mk ⟨rfl, hty⟩
                  rw [← HML.out] at HS2
                  have HS3 := (show Hid _ from HS2)
                  clear HS2 hty HTY HMS HML
                  obtain ⟨w10, hw10⟩ : ∃ w10, w10 = w9.alloc (.cells #[.int .i64 (a.t : Int), .int .i64 (a.l : Int)] 31) := ⟨_, rfl⟩
                  obtain ⟨ad, had⟩ : ∃ ad, ad = w9.heap.size := ⟨_, rfl⟩
                  have k10 : Kp no w9 w10 := by rw [hw10]; exact (Kp.refl _ _).alloc _
                  obtain ⟨y0, y1⟩ : w10.cell? ⟨ad, 0, none⟩ = some (.int .i64 (a.t : Int)) ∧ w10.cell? ⟨ad, 1, none⟩ = some (.int .i64 (a.l : Int)) := by
                    subst hw10 had
                    exact ⟨by simp, by simp⟩
                  have hb9 : b18 < w9.heap.size := cell_lt e0
                  go_upto_region 18 with fail
                  rw [← had, ← hw10]
                  clear had hw10 hb9
                  have g1 := k10.cell e1 id
                  have g3 := k10.cell e3 id
                  have hl10 := hl9.on k10
                  have hp10 : LinePut g off w w10 := hp9.trans (LinePut.of_no k10 hl9.lt)
                  obtain ⟨hsh10, hax10, hsrc10⟩ := HEnv.out w10 hp10.kp
                  have HHM : Hid (Calls Try.prog 57 #[.pointer (some ⟨cb, 0, none⟩), .int .i64 (a.l : Int), .int .i64 (a.r : Int)] w10 fun e w' => e = .returned (.tuple #[.pointer (some ⟨cb, 2 + homeI (colAx S V 0 0 0) a.l a.r * 4, none⟩), .int .i64 ((colAx S V 0 0 0).spanB (homeI (colAx S V 0 0 0) a.l a.r) a.l a.r).1, .int .i64 ((colAx S V 0 0 0).spanB (homeI (colAx S V 0 0 0) a.l a.r) a.l a.r).2]) ∧ ∃ q, w' = w10.drewN q) := by
                    obtain ⟨q1, q2, q3, hcol⟩ := hax10.col
                    exact home_any w10 cb _ hcol ((colOk hS hV).ok _ _ _ _) a.l a.r hao.lr hao.r
                  have HBC : Hid (∀ w', Kp (one g) w w' → w'.cell? ⟨cb, 2 + homeI (colAx S V 0 0 0) a.l a.r * 4 + 2, none⟩ = some (.int .i64 ((colAx S V 0 0 0).bLo (homeI (colAx S V 0 0 0) a.l a.r) : Int)) ∧ w'.cell? ⟨cb, 2 + homeI (colAx S V 0 0 0) a.l a.r * 4 + 3, none⟩ = some (.int .i64 ((colAx S V 0 0 0).bHi (homeI (colAx S V 0 0 0) a.l a.r) : Int))) := fun w' k => by
                    obtain ⟨q1, q2, q3, hcol⟩ := (HEnv.out w' k).2.1.col
                    obtain ⟨-, -, t2, t3⟩ := band_cells hcol (homeI_lt (colAx S V 0 0 0) a.l a.r) rfl
                    exact ⟨t2, t3⟩
                  have HSL := span_le (colOk hS hV) 0 0 0 (lnK 26 80 V.fc V.sc (colSz S) 26) (homeI (colAx S V 0 0 0) a.l a.r) a.l a.r hao.lr
                  have HBH := (band_in ((colOk hS hV).ok 0 0 0 (lnK 26 80 V.fc V.sc (colSz S) 26)) (i := homeI (colAx S V 0 0 0) a.l a.r)).2
                  change -10000 ≤ ((colAx S V 0 0 0).spanB (homeI (colAx S V 0 0 0) a.l a.r) a.l a.r).1 ∧ ((colAx S V 0 0 0).spanB (homeI (colAx S V 0 0 0) a.l a.r) a.l a.r).1 ≤ ((colAx S V 0 0 0).spanB (homeI (colAx S V 0 0 0) a.l a.r) a.l a.r).2 ∧ ((colAx S V 0 0 0).spanB (homeI (colAx S V 0 0 0) a.l a.r) a.l a.r).2 ≤ 11000 at HSL
                  change (colAx S V 0 0 0).bHi (homeI (colAx S V 0 0 0) a.l a.r) ≤ 80 at HBH
                  generalize ((colAx S V 0 0 0).spanB (homeI (colAx S V 0 0 0) a.l a.r) a.l a.r).1 = lf at *
                  generalize ((colAx S V 0 0 0).spanB (homeI (colAx S V 0 0 0) a.l a.r) a.l a.r).2 = rt at *
                  generalize (colAx S V 0 0 0).bLo (homeI (colAx S V 0 0 0) a.l a.r) = bl at *
                  generalize (colAx S V 0 0 0).bHi (homeI (colAx S V 0 0 0) a.l a.r) = bh at *
                  generalize 2 + homeI (colAx S V 0 0 0) a.l a.r * 4 = bo at *
                  obtain ⟨hs1, hs2, hs3⟩ := HSL
                  have HSM : Hid ((shown S.es a.t a.l).text.size ≤ 65536 ∧ (shown S.es a.t a.l).al ≤ 3) := shown_small hS.es a.t a.l
                  have HPS := placeS_small (shown S.es a.t a.l) lf rt (by omega) (by omega) (by omega) HSM.out.1
                  have HPT := placeT_small (shown S.es a.t a.l) lf rt (by omega) (by omega) HSM.out.1
                  have HDisp : Hid (∀ w' : World, Kp no w10 w' → Calls Try.prog 19 #[.pointer (some ⟨sb, 0, none⟩), .agg #[.int .i64 (a.t : Int), .int .i64 (a.l : Int)]] w' fun e w'' => e = .returned (.agg #[.string (shown S.es a.t a.l).text, .bool (shown S.es a.t a.l).num, .int .i64 ((shown S.es a.t a.l).al : Int)]) ∧ Kp no w' w'') :=
                    fun w' k => display_at w' sb S (hsh10.on k) hS a.t a.l (by have := hao.tb; have := hao.b; omega) (by have := hao.lr; have := hao.r; omega)
                  have HPL : Hid (∀ w', Calls Try.prog 58 #[.agg #[.string (shown S.es a.t a.l).text, .bool (shown S.es a.t a.l).num, .int .i64 ((shown S.es a.t a.l).al : Int)], .int .i64 lf, .int .i64 rt] w' fun e w'' => e = .returned (.tuple #[.string (placeT (shown S.es a.t a.l) lf rt), .int .i64 (placeS (shown S.es a.t a.l) lf rt)]) ∧ Kp no w' w'') :=
                    fun w' => place_at repOk w' (shown S.es a.t a.l) lf rt (by omega) (by omega) (by omega) HSM.out.1 HSM.out.2
                  have hmd : ∀ w : World, (method 271 38 (.pointer (some ⟨sb, 0, none⟩)) "Display").run Try.prog w = .ok (19, .pointer (some ⟨sb, 0, none⟩)) w := fun _ => by kernel_rfl
                  generalize placeT (shown S.es a.t a.l) lf rt = ct at *
                  generalize placeS (shown S.es a.t a.l) lf rt = cs at *
                  generalize shown S.es a.t a.l = sn at *
                  have s0 : w10.cell? ⟨lb, 0, none⟩ = some (.iface 38 (.pointer (some ⟨sb, 0, none⟩))) := hsrc10
                  clear e0 e1 e2 e3 k10 hl9 hp9 hsh10 hax10 hsrc10
                  go_wp2_with fail
                  refine HHM.out.mono ?_
                  rintro e w11 ⟨rfl, q, rfl⟩
                  have k11 : Kp no w10 (w10.drewN q) := (Kp.refl _ _).drewN q
                  generalize w10.drewN q = w11 at k11 ⊢
                  have t0 : ∀ p : KpOf w11, p.to.cell? ⟨ad, 0, none⟩ = some (.int .i64 (a.t : Int)) := fun p => p.h.cell (k11.cell y0 id) id
                  have t1 : ∀ p : KpOf w11, p.to.cell? ⟨ad, 1, none⟩ = some (.int .i64 (a.l : Int)) := fun p => p.h.cell (k11.cell y1 id) id
                  have t3 : ∀ p : KpOf w11, p.to.cell? ⟨lb, 0, none⟩ = some (.iface 38 (.pointer (some ⟨sb, 0, none⟩))) := fun p => p.h.cell (k11.cell s0 id) id
                  clear g1 g3
                  go_wp2_with fail
                  refine wp_region_kp (by kernel_rfl) (by kernel_rfl) ?_
                  repeat (go_big_quiet_step (first | exact kp_of (HDisp.out _ (k11.trans (KpOf.h _))) | exact kp_of (HPL.out _)))
                  refine wpQuiet_nil ?_
                  intro _ hw'
                  obtain ⟨pq, hpq⟩ := hw'
                  subst hpq
                  have kq := pq.h
                  generalize pq.to = w12 at kq ⊢
                  have k12 : Kp no w10 w12 := k11.trans kq
                  have hl12 := hl10.on k12
                  have hp12 : LinePut g off w w12 := hp10.trans (LinePut.of_no k12 hl10.lt)
                  have ca := k12.cell y0 id
                  have cbb := k12.cell y1 id
                  obtain ⟨z2, z3⟩ := HBC.out w12 hp12.kp
                  have HB12 : Hid (Boo (one g) w12) := boo_on hl12 hp12 HB.out
                  have hadg : ad ≠ g := boo_ne (X := one g) HB12.out ca fun _ e => (by cases e)
                  have hcbg : cb ≠ g := by
                    obtain ⟨q1, q2, q3, hq⟩ := (HEnv.out w12 hp12.kp).2.1.col
                    exact boo_ne (X := one g) HB12.out hq.c0 fun _ e => (by cases e)
                  obtain ⟨m1, hm1⟩ : ∃ m1, max lf (bl : Int) = m1 := ⟨_, rfl⟩
                  obtain ⟨m2, hm2⟩ : ∃ m2, max m1 (x0 : Int) = m2 := ⟨_, rfl⟩
                  obtain ⟨p1, hp1'⟩ : ∃ p1, min rt (bh : Int) = p1 := ⟨_, rfl⟩
                  obtain ⟨p2, hp2'⟩ : ∃ p2, min p1 (x1 : Int) = p2 := ⟨_, rfl⟩
                  have HS4 : Hid (mergeLine S V y x0 x1 M0 (k + 1) = drawOn Mk a.t a.l ct cs m2 p2) := by
                    show _ = _
                    have := HS3.out
                    rw [hm1, hm2, hp1', hp2'] at this
                    exact this
                  have f1 : (if lf < (bl : Int) then (bl : Int) else lf) = m1 := by rw [← hm1]; split <;> omega
                  have f2 : (if m1 < (x0 : Int) then (x0 : Int) else m1) = m2 := by rw [← hm2]; split <;> omega
                  have f3 : (if (bh : Int) < rt then (bh : Int) else rt) = p1 := by rw [← hp1']; split <;> omega
                  have f4 : (if (x1 : Int) < p1 then (x1 : Int) else p1) = p2 := by rw [← hp2']; split <;> omega
                  have hmx : ∀ W : World, (Builtin.max_ #[3, 3, 3] 3 #[.int .i64 lf, .int .i64 (bl : Int), .int .i64 (x0 : Int)]).run Try.prog W = .ok (.int .i64 m2) W := fun W => by
                    rw [run_max_int3, show (if (bl : Int) > lf then (bl : Int) else lf) = m1 from f1, show (if (x0 : Int) > m1 then (x0 : Int) else m1) = m2 from f2]
                  have hmn : ∀ W : World, (Builtin.min_ #[3, 3, 3] 3 #[.int .i64 rt, .int .i64 (bh : Int), .int .i64 (x1 : Int)]).run Try.prog W = .ok (.int .i64 p2) W := fun W => by
                    rw [Go.run_min_int3, f3, f4]
                  clear f1 f2 f3 f4
                  have HDR : Hid (∀ w', Kp no w12 w' → Calls Try.prog 59 #[.slice (some ⟨g, off, none⟩) 80 80, .agg #[.int .i64 (a.t : Int), .int .i64 (a.l : Int)], .string ct, .int .i64 cs, .int .i64 m2, .int .i64 p2] w' fun e w'' => e = .returned (.tuple #[]) ∧ LineAt w'' g off (mergeLine S V y x0 x1 M0 (k + 1)) ∧ LinePut g off w' w'') := fun w' k => by
                    rw [HS4.out]
                    exact draw_at w' g off _ (hl12.on k) a.t a.l ct cs m2 p2 (by rw [← hm2]; omega) (by rw [← hp2']; omega) (by omega) (by omega) HPT
                  have hglt : g < w12.heap.size := hl12.lt
                  clear hm1 hm2 hp1' hp2' HS4 HS3 t0 t1 t3 s0 y0 y1 k11 kq k12 HDisp HPL HHM
                  go_wp2_with fail
                  go_region_held3 (fun w' => w'.cell? ⟨ad, 0, none⟩ = some (.int .i64 (a.t : Int)) ∧ w'.cell? ⟨ad, 1, none⟩ = some (.int .i64 (a.l : Int)) ∧ w'.cell? ⟨cb, bo + 2, none⟩ = some (.int .i64 (bl : Int)) ∧ w'.cell? ⟨cb, bo + 3, none⟩ = some (.int .i64 (bh : Int)))
                    (refine ⟨?_, ?_, ?_, ?_⟩ <;> assumption)
                    (first | (go_at_call 59; refine (HDR.out _ (by first | exact (Kp.refl no _).drew | exact Kp.refl no _)).mono ?_; rintro e w13 ⟨rfl, hl13, hp13⟩; have t0 := hp13.kp.cell (p := ⟨ad, 0, none⟩) ca hadg; have t1 := hp13.kp.cell (p := ⟨ad, 1, none⟩) cbb hadg; have t2 := hp13.kp.cell (p := ⟨cb, bo + 2, none⟩) z2 hcbg; have t3 := hp13.kp.cell (p := ⟨cb, bo + 3, none⟩) z3 hcbg))
                  all_goals go_wp2_with fail
                  all_goals
                    refine ⟨⟨k + 1, by omega, by go_num, hl13, hp12.trans ((LinePut.of_no (Kp.refl _ _).drew hglt).trans hp13)⟩, by simp [intOf]; omega⟩
                · have htn : (ty != (y : Int)) = true := by simp [hty]
                  have HS2 : Hid (mergeLine S V y x0 x1 M0 (k + 1) = Mk) := by show _ = _; rw [HML.out, HMS.out, if_neg (fun h => hty h.2)]
                  go_wp2_with fail
                  go_roundw
                  case rel => exact ⟨k + 1, by omega, by go_num, by rw [HS2.out]; exact hl9, hp9⟩
                  case measure => simp [intOf]; omega
            · have hk' : S.mg.length = k := by omega
              have HF2 : Hid (LineAt wr g off (paintOf S V y x0 x1 L)) := by rw [HF.out, hk']; exact hl
              go_wp2_with fail
              go_end0
              exact ⟨rfl, HF2.out, hp⟩
end Go.Proofs.Qxb6500653a
