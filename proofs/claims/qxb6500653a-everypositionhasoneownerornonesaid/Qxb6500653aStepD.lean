/-
  Sheet.Step (30): a merge undone.
-/
import Derived.Test.Qxb6500653aStepC
namespace Go.Proofs.Qxb6500653a
open Go.RowKit Go.ChangeMaps

theorem info56 : (Try.prog.info? 56).map (fun i => (i.zero, i.size, i.bytes)) = some (some (.agg #[.int .i64 0, .int .i64 0, .int .i64 0, .int .i64 0]), 4, 32) := by kernel_rfl
theorem flatA_append (a b : List Ar) : flatA (a ++ b) = flatA a ++ flatA b := by
  induction a with
  | nil => rfl
  | cons x m ih => show x.cells ++ flatA (m ++ b) = _; rw [ih]; exact (List.append_assoc _ _ _).symm
/-- the list of merges, laid anew -/
theorem SheetAt.setMg {w : World} {sb : Nat} {S : Sh} (h : SheetAt w sb S) (v : Value) (L : List Ar) (ho : w.ownsRow (sb + 1) 56 4 v L.length (flatA L)) (hn : L = [] → v = .slice none 0 0) : SheetAt (w.setCell ⟨sb, 180, none⟩ v) sb { S with mg := L, mv := v } := by
  have k : Kp (one sb) w (w.setCell ⟨sb, 180, none⟩ v) := Kp.set _ _ rfl
  refine ⟨fun c hc => keepc (by omega) (h.wd c hc), fun c hc => keepc (by omega) (h.ht c hc), fun c hc => keepc (by omega) (h.hr c hc), fun c hc => keepc (by omega) (h.hc c hc), cset_eq _ _ _ _ h.mg, ?_, keepc (by decide) h.mp, ?_, keepc (by decide) h.st, fun j => ?_, hn⟩
  · exact ho.kept k.grown (by
      cases hb : v.ownBlock with
      | none => exact Or.inl rfl
      | some b => exact Or.inr fun e => by have := (ho.lt b hb).1; have e' := Option.some.inj e; omega)
  · obtain ⟨c, hc⟩ := h.map
    exact ⟨c, (k.block _ h.pb_lt h.pb_ne).trans hc⟩
  · rw [World.frozen?_setCell]; exact h.free j
/-- the merges but one, of the first k -/
def restM (M : List Ar) (A : Ar) (k : Nat) : List Ar := (M.take k).filter (fun a => decide (a ≠ A))
theorem restM_succ {M : List Ar} {A : Ar} {k : Nat} {a : Ar} (h : M[k]? = some a) : restM M A (k + 1) = restM M A k ++ (if a = A then [] else [a]) := by
  unfold restM
  rw [List.take_add_one, h, List.filter_append]
  by_cases e : a = A <;> simp [e]
theorem restM_len (M : List Ar) (A : Ar) (k : Nat) : (restM M A k).length ≤ k := by
  unfold restM
  have := List.length_filter_le (fun a => decide (a ≠ A)) (M.take k)
  have := List.length_take_le k M
  omega
theorem restM_sub (M : List Ar) (A : Ar) (k : Nat) : (restM M A k).Sublist M := (List.filter_sublist).trans (List.take_sublist _ _)
theorem SheetAt.cons {w : World} {sb : Nat} {S : Sh} (h : SheetAt w sb S) (h0 : S.mg ≠ []) : ∃ g cap, S.mv = .slice (some ⟨g, 0, none⟩) S.mg.length cap ∧ ∀ (k : Nat) (a : Ar), S.mg[k]? = some a → w.cell? ⟨g, k * 4, none⟩ = some (.int .i64 (a.t : Int)) ∧ w.cell? ⟨g, k * 4 + 1, none⟩ = some (.int .i64 (a.l : Int)) ∧ w.cell? ⟨g, k * 4 + 2, none⟩ = some (.int .i64 (a.b : Int)) ∧ w.cell? ⟨g, k * 4 + 3, none⟩ = some (.int .i64 (a.r : Int)) := by
  rcases h.mrow.2 with ⟨e, hn⟩ | ⟨g, cap, cur, e, _⟩
  · exact absurd (List.length_eq_zero_iff.1 hn) h0
  · refine ⟨g, cap, e, fun k a ha => ?_⟩
    have hk := (List.getElem?_eq_some_iff.1 ha).1
    obtain ⟨f0, f1, f2, f3⟩ := flatA_get S.mg k a ha
    have hr := h.mrow
    rw [e] at hr
    exact ⟨(hr.cellAt _ (by omega)).trans f0, (hr.cellAt _ (by omega)).trans f1, (hr.cellAt _ (by omega)).trans f2, (hr.cellAt _ (by omega)).trans f3⟩

set_option maxRecDepth 100000 in
set_option maxHeartbeats 2000000 in
theorem step_unmerge (w : World) (sb : Nat) (S : Sh) (h : SheetAt w sb S) (hS : S.Ok) (hst : S.steps < 1000000) (a b c d : Int) (tx : ByteArray) :
    Calls Try.prog 30 #[.pointer (some ⟨sb, 0, none⟩), .agg #[.int .i64 6, .int .i64 a, .int .i64 b, .int .i64 c, .int .i64 d, .string tx]] w (StepPost sb S 6 w) := by
  obtain ⟨w2, hw2⟩ : ∃ w2, w2 = (w.alloc (.cells #[.int .i64 6, .int .i64 a, .int .i64 b, .int .i64 c, .int .i64 d, .string tx] 28)).alloc (.cells #[.int .i64 a, .int .i64 b] 31) := ⟨_, rfl⟩
  have hP : Pre w (w2.setCell ⟨sb, 182, none⟩ (.int .u64 ((S.steps : Int) + 1))) sb S w.heap.size ⟨6, a, b, c, d, tx⟩ := Pre.of h ⟨6, a, b, c, d, tx⟩ w2 hw2
  have HOK : Hid (S.tick.Ok) := Sh.tick_ok hS hst
  have hS2 : SheetAt w2 sb S := h.on (by rw [hw2]; exact ((Kp.refl no w).alloc _).alloc _)
  have d0 := hS2.st
  have d1 := hS2.free 182
  have hsl := h.lt
  have HI : Hid (∀ w', Calls Try.prog 27 #[.agg #[.int .i64 a, .int .i64 b]] w' fun e w'' => e = .returned (.bool (inS a b)) ∧ Kp no w' w'') := fun w' => inSheetM_at w' a b
  cases h1 : inS a b with
  | false =>
    rw [h1] at HI
    clear h1
    go_enter Try.func30, Try.ntmps30
    go_upto_region 2 with fail
    rw [← hw2]
    clear hw2
    go_upto_region 3 with fail
    generalize w2.setCell ⟨sb, 182, none⟩ (.int .u64 ((S.steps : Int) + 1)) = w3 at hP ⊢
    generalize w.heap.size = n0 at hP hsl ⊢
    have r0 := hP.o0
    have r1 := hP.o1
    have r2 := hP.o2
    clear d0 d1 hS2
    have r3 := hP.a0
    have r4 := hP.a1
    go_wp2_with fail
    refine (HI.out _).mono ?_
    rintro e w4 ⟨rfl, k4⟩
    go_wp2_with fail
    go_ret2
    exact ⟨1, S.tick, rfl, (hP.kp.trans (Kp.of_no k4)).sh, hP.sh.on k4, HOK.out, rfl, rfl, fun h => absurd h (by decide), Born.one h (hP.kp.trans (Kp.of_no k4)) _ rfl rfl⟩
  | true =>
    obtain ⟨rn, cn, rfl, rfl, hr, hc⟩ := inS_nat h1
    rw [h1] at HI
    clear h1
    obtain ⟨o, ho⟩ : ∃ o, mergeAt S.mg rn cn = o := ⟨_, rfl⟩
    obtain ⟨A, hA⟩ : ∃ A, o.getD ⟨0, 0, 0, 0⟩ = A := ⟨_, rfl⟩
    obtain ⟨bb, hb⟩ : ∃ b, o.isSome = b := ⟨_, rfl⟩
    go_enter Try.func30, Try.ntmps30
    go_upto_region 2 with fail
    rw [← hw2]
    clear hw2
    go_upto_region 3 with fail
    generalize w2.setCell ⟨sb, 182, none⟩ (.int .u64 ((S.steps : Int) + 1)) = w3 at hP ⊢
    generalize w.heap.size = n0 at hP hsl ⊢
    have r0 := hP.o0
    have r1 := hP.o1
    have r2 := hP.o2
    clear d0 d1 hS2
    have HM : Hid (∀ w', Kp no w3 w' → Calls Try.prog 20 #[.pointer (some ⟨sb, 0, none⟩), .agg #[.int .i64 (rn : Int), .int .i64 (cn : Int)]] w' fun e w'' => e = .returned (.tuple #[.agg #[.int .i64 (A.t : Int), .int .i64 (A.l : Int), .int .i64 (A.b : Int), .int .i64 (A.r : Int)], .bool bb]) ∧ Kp no w' w'') :=
      fun w' k => mergeAt_v w' sb S.tick (hP.sh.on k) HOK.out rn cn o ho A hA bb hb
    have HNE : Hid (bb = true → S.mg ≠ []) := fun hbb e => by
      rw [e] at ho
      have : o = none := ho.symm
      rw [← hb, this] at hbb
      cases hbb
    clear ho hA hb
    have r3 := hP.a0
    have r4 := hP.a1
    go_wp2_with fail
    refine (HI.out _).mono ?_
    rintro e w4 ⟨rfl, k4⟩
    have s0 := k4.cell r0 id
    have s3 := k4.cell r3 id
    have s4 := k4.cell r4 id
    go_wp2_with fail
    refine (HM.out _ k4).mono ?_
    rintro e w5 ⟨rfl, k5⟩
    obtain ⟨w6, hw6⟩ : ∃ w6, w6 = w5.alloc (.cells #[.int .i64 (A.t : Int), .int .i64 (A.l : Int), .int .i64 (A.b : Int), .int .i64 (A.r : Int)] 56) := ⟨_, rfl⟩
    have k36 : Kp no w3 w6 := by rw [hw6]; exact (k4.trans k5).alloc _
    have hs6 : SheetAt w6 sb S.tick := hP.sh.on k36
    have HS6 : Hid (SheetAt w6 sb S.tick) := hs6
    have HK6 : Hid (Kp (one sb) w w6) := hP.kp.trans (Kp.of_no k36)
    obtain ⟨b7, hb7⟩ : ∃ b7, b7 = w5.heap.size := ⟨_, rfl⟩
    have x0 : w6.cell? ⟨b7, 0, none⟩ = some (.int .i64 (A.t : Int)) := by rw [hw6, hb7]; simp
    have x1 : w6.cell? ⟨b7, 1, none⟩ = some (.int .i64 (A.l : Int)) := by rw [hw6, hb7]; simp
    have x2 : w6.cell? ⟨b7, 2, none⟩ = some (.int .i64 (A.b : Int)) := by rw [hw6, hb7]; simp
    have x3 : w6.cell? ⟨b7, 3, none⟩ = some (.int .i64 (A.r : Int)) := by rw [hw6, hb7]; simp
    clear s0 s3 s4 HI HM r0 r1 r2 r3 r4 hs6
    go_upto_region 58 with fail
    rw [← hb7, ← hw6]
    clear hb7 hw6 k4 k5 k36
    cases bb with
    | false =>
      go_wp2_with fail
      go_ret2
      exact ⟨7, S.tick, rfl, HK6.out.sh, HS6.out, HOK.out, rfl, rfl, fun h => absurd h (by decide), Born.one h HK6.out _ rfl rfl⟩
    | true =>
      obtain ⟨g, cap, hmv, hcells⟩ := HS6.out.cons (HNE.out rfl)
      have mg := HS6.out.mg
      have fr := HS6.out.free 180
      have HC : Hid (∀ (k : Nat) (a : Ar), S.mg[k]? = some a → w6.cell? ⟨g, k * 4, none⟩ = some (.int .i64 (a.t : Int)) ∧ w6.cell? ⟨g, k * 4 + 1, none⟩ = some (.int .i64 (a.l : Int)) ∧ w6.cell? ⟨g, k * 4 + 2, none⟩ = some (.int .i64 (a.b : Int)) ∧ w6.cell? ⟨g, k * 4 + 3, none⟩ = some (.int .i64 (a.r : Int))) := hcells
      rw [hmv] at mg
      have h32 : S.mg.length ≤ 32 := hS.few
      have HMG : Hid (S.tick.mg = S.mg) := rfl
      have mg' : w6.cell? ⟨sb, 180, none⟩ = some (.slice (some ⟨g, 0, none⟩) S.mg.length cap) := mg
      obtain ⟨M, hM⟩ : ∃ M, M = S.mg := ⟨_, rfl⟩
      have HMM : Hid (M = S.mg) := hM
      rw [← hM] at mg' h32 HC
      obtain ⟨i0, hi, hz0, hz1, hz2⟩ := info_parts info56
      have hs6 : sb < w6.heap.size := HS6.out.lt
      clear mg hcells hmv hM
      go_wp2_with fail
      go_loopw [15, 319] (fun ov kv wr => ∃ k : Nat, k ≤ M.length ∧ kv = .int .i64 (k : Int) ∧ Kp no w6 wr ∧ wr.ownsRow w6.heap.size 56 4 ov (restM M A k).length (flatA (restM M A k)) ∧ (restM M A k = [] → ov = .slice none 0 0)) (fun _ kv _ => M.length - (intOf kv).toNat)
      case atStart => exact ⟨0, Nat.zero_le _, rfl, Kp.refl _ _, World.ownsRow_nil _ _ _ _, fun _ => rfl⟩
      case round =>
        obtain ⟨k, hk, rfl, kr, hown, hnil⟩ := hrel
        by_cases hlt : k < M.length
        · obtain ⟨a, ha⟩ : ∃ a, M[k]? = some a := ⟨_, List.getElem?_eq_getElem hlt⟩
          obtain ⟨c0, c1, c2, c3⟩ := HC.out k a ha
          have HRS : Hid (restM M A (k + 1) = restM M A k ++ (if a = A then [] else [a])) := restM_succ ha
          have HL : Hid ((restM M A k).length ≤ k) := restM_len M A k
          have g0 := kr.cell c0 id
          have g1 := kr.cell c1 id
          have g2 := kr.cell c2 id
          have g3 := kr.cell c3 id
          have y0 := kr.cell x0 id
          have y1 := kr.cell x1 id
          have y2 := kr.cell x2 id
          have y3 := kr.cell x3 id
          have ly : b7 < wr.heap.size := cell_lt y0
          have hneq : ∀ W : World, (binOp .neq 56 (.agg #[.int .i64 (a.t : Int), .int .i64 (a.l : Int), .int .i64 (a.b : Int), .int .i64 (a.r : Int)]) (.agg #[.int .i64 (A.t : Int), .int .i64 (A.l : Int), .int .i64 (A.b : Int), .int .i64 (A.r : Int)])).run Try.prog W = .ok (.bool (decide (a ≠ A))) W := fun W => by
            rw [neq56]
            have : (!(((a.t : Int) == (A.t : Int)) && ((a.l : Int) == (A.l : Int)) && ((a.b : Int) == (A.b : Int)) && ((a.r : Int) == (A.r : Int)))) = decide (a ≠ A) := by
              obtain ⟨a1, a2, a3, a4⟩ := a
              obtain ⟨b1, b2, b3, b4⟩ := A
              by_cases e : (⟨a1, a2, a3, a4⟩ : Ar) = ⟨b1, b2, b3, b4⟩
              · cases e; simp
              · have : ¬ (a1 = b1 ∧ a2 = b2 ∧ a3 = b3 ∧ a4 = b4) := fun ⟨e1, e2, e3, e4⟩ => e (by rw [e1, e2, e3, e4])
                rw [decide_eq_true e]
                cases hq : (((a1 : Int) == (b1 : Int)) && ((a2 : Int) == (b2 : Int)) && ((a3 : Int) == (b3 : Int)) && ((a4 : Int) == (b4 : Int))) with
                | false => rfl
                | true =>
                  simp only [Bool.and_eq_true, beq_iff_eq] at hq
                  exact absurd ⟨by omega, by omega, by omega, by omega⟩ this
            rw [this]
          by_cases e : a = A
          · rw [decide_eq_false (fun h => h e)] at hneq
            have HR2 : Hid (restM M A (k + 1) = restM M A k) := by have := HRS.out; rw [if_pos e, List.append_nil] at this; exact this
            have howq := hown.kept (((Kp.refl no wr).alloc (.cells #[.int .i64 (a.t : Int), .int .i64 (a.l : Int), .int .i64 (a.b : Int), .int .i64 (a.r : Int)] 56)).grownOf none) (Classical.em _)
            clear e ha c0 c1 c2 c3
            go_wp2_with fail
            refine ⟨⟨k + 1, by omega, by go_num, kr.alloc _, by rw [HR2.out]; exact howq, by rw [HR2.out]; exact hnil⟩, by simp [intOf]; omega⟩
          · rw [decide_eq_true e] at hneq
            have HR2 : Hid (restM M A (k + 1) = restM M A k ++ [a]) := by have := HRS.out; rw [if_neg e] at this; exact this
            obtain ⟨wq, hwq⟩ : ∃ wq, wq = wr.alloc (.cells #[.int .i64 (a.t : Int), .int .i64 (a.l : Int), .int .i64 (a.b : Int), .int .i64 (a.r : Int)] 56) := ⟨_, rfl⟩
            have howq : wq.ownsRow w6.heap.size 56 4 u15 (restM M A k).length (flatA (restM M A k)) := by rw [hwq]; exact hown.kept (((Kp.refl no wr).alloc _).grownOf none) (Classical.em _)
            have kq6 : Kp no w6 wq := by rw [hwq]; exact kr.alloc _
            have z0 : wq.cell? ⟨wr.heap.size, 0, none⟩ = some (.int .i64 (a.t : Int)) := by rw [hwq]; simp
            have z1 : wq.cell? ⟨wr.heap.size, 1, none⟩ = some (.int .i64 (a.l : Int)) := by rw [hwq]; simp
            have z2 : wq.cell? ⟨wr.heap.size, 2, none⟩ = some (.int .i64 (a.b : Int)) := by rw [hwq]; simp
            have z3 : wq.cell? ⟨wr.heap.size, 3, none⟩ = some (.int .i64 (a.r : Int)) := by rw [hwq]; simp
            have hsz6 : w6.heap.size ≤ wq.heap.size := kq6.size
            have hL6 : (restM M A k).length ≤ 32 := by have := HL.out; omega
            generalize restM M A k = L at *
            clear e ha c0 c1 c2 c3
            go_upto_region 65 with fail
            rw [← hwq]
            clear hwq
            generalize wr.heap.size = bq at *
            go_wp2_with (first | (at_builtin; refine wpList_append_own_at _ rfl _ _ 85 rfl w6.heap.size 56 i0 (.agg #[.int .i64 0, .int .i64 0, .int .i64 0, .int .i64 0]) 4 32 Try.underlying85 hi hz0 hz1 hz2 rfl (by decide) _ _ _ rfl (howq.alloc _) ⟨wq.heap.size, 0, none⟩ 1 1 [.int .i64 (a.t : Int), .int .i64 (a.l : Int), .int .i64 (a.b : Int), .int .i64 (a.r : Int)] rfl rfl (cell_four_new _ _ _ _ _ _) (by intro u hu; simp at hu; rcases hu with rfl | rfl | rfl | rfl <;> rfl) (by unfold maxLen; omega) (by omega) (by simp; omega) ?_; intro v' w8 hown' hgrow hnil' hloc) | fail)
            refine ⟨⟨k + 1, by omega, by go_num, (kq6.alloc _).appended (howq.alloc _) hgrow, ?_, ?_⟩, by simp [intOf]; omega⟩
            · rw [HR2.out, List.length_append, flatA_append]
              exact hown'
            · rw [HR2.out]
              intro e'
              simp at e'
        · have hk' : M.length = k := by omega
          subst hk'
          obtain ⟨p1, p2, p3, hov⟩ : ∃ p1 p2 p3, u15 = .slice p1 p2 p3 := by
            rcases hown.2 with ⟨e, _⟩ | ⟨g', cap', cur, e, _⟩
            · exact ⟨_, _, _, e⟩
            · exact ⟨_, _, _, e⟩
          subst hov
          have y9 := kr.cell mg' id
          have f9 := (kr.frozen (p := ⟨sb, 180, none⟩) hs6 id).trans fr
          have HSR : Hid (SheetAt (wr.setCell ⟨sb, 180, none⟩ (.slice p1 p2 p3)) sb { S.tick with mg := restM M A M.length, mv := .slice p1 p2 p3 }) := (HS6.out.on kr).setMg _ _ (owns_mono hown (by omega)) hnil
          have HKR : Hid (Kp (one sb) w (wr.setCell ⟨sb, 180, none⟩ (.slice p1 p2 p3))) := (HK6.out.trans (Kp.of_no kr)).setCell (p := ⟨sb, 180, none⟩) (fun _ => rfl) _
          have HOR : Hid (Sh.Ok { S.tick with mg := restM M A M.length, mv := .slice p1 p2 p3 }) := by
            have h0 := HOK.out
            have hsub := restM_sub M A M.length
            have e := HMM.out
            exact ⟨h0.wd, h0.ht, Nat.le_trans hsub.length_le h32, fun x hx => h0.each x (by show x ∈ S.mg; rw [← e]; exact hsub.subset hx), by
              have := h0.apart
              change S.mg.Pairwise _ at this
              rw [← e] at this
              exact this.sublist hsub, h0.es, h0.steps⟩
          go_wp2_with fail
          go_ret2
          exact ⟨0, _, rfl, HKR.out.sh, HSR.out, HOR.out, rfl, rfl, fun h => absurd h (by decide), Born.one h HKR.out _ rfl rfl⟩
end Go.Proofs.Qxb6500653a
