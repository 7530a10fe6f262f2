/-
  axes (37): the geometry under the present view, laid out anew where it no longer holds.
-/
import Derived.Test.Qxb6500653aLayAt
import Derived.Deep.RegionHeld3
namespace Go.Proofs.Qxb6500653a
open Go.RowKit

/-- behind the rows' axis (o = 5) or the columns' (o = 6) -/
structure Put1 (w wx : World) (lb o ab : Nat) (A : Nat → Nat → Nat → Ax) : Prop where
  kp : Kp (one lb) w wx
  at_ : wx.cell? ⟨lb, o, none⟩ = some (.pointer (some ⟨ab, 0, none⟩))
  ax : ∃ zb tb l, AxAt wx ab (A zb tb l)
  same : ∀ j, j ≠ o → wx.cell? ⟨lb, j, none⟩ = w.cell? ⟨lb, j, none⟩
  free : ∀ j, wx.frozen? ⟨lb, j, none⟩ = w.frozen? ⟨lb, j, none⟩

theorem Put1.of {w w5 : World} {lb o ab zb tb l : Nat} {A : Nat → Nat → Nat → Ax} {v : Value} {u : Value} (hlb : w.cell? ⟨lb, o, none⟩ = some v) (hsl : w.cell? ⟨lb, 0, none⟩ = some u) (hu1 : ∀ k i, u ≠ .int k i) (hu2 : ∀ a n c, u ≠ .slice a n c) (k : Kp no w.drew w5) (hA : AxAt w5 ab (A zb tb l)) (hn : 0 < (A zb tb l).n) (hm : 0 < (A zb tb l).m) :
    Put1 w (w5.setCell ⟨lb, o, none⟩ (.pointer (some ⟨ab, 0, none⟩))) lb o ab A := by
  have k0 : Kp no w w5 := k.drew_left
  have ks : Kp (one lb) w5 (w5.setCell ⟨lb, o, none⟩ (.pointer (some ⟨ab, 0, none⟩))) := Kp.set _ _ rfl
  have hf : Far (one lb) w5 := fun b hb => by subst hb; exact ⟨u, k0.cell hsl id, hu1, hu2⟩
  refine ⟨(Kp.of_no k0).trans ks, cset_eq _ _ _ _ (k0.cell hlb id), ⟨zb, tb, l, hA.far ks hf hn hm⟩, fun j hj => ?_, fun j => ?_⟩
  · rw [cset_ne _ _ _ _ _ (Ne.symm hj)]
    exact World.cell?_of_block (w := w) (k0.block lb (cell_lt hlb) id)
  · rw [World.frozen?_setCell]
    exact World.frozen?_of_block (w := w) (k0.block lb (cell_lt hlb) id)
theorem Put1.drew {w wx : World} {lb o ab : Nat} {A : Nat → Nat → Nat → Ax} (h : Put1 w wx lb o ab A) : Put1 w wx.drew lb o ab A :=
  ⟨h.kp.drew, h.at_, by obtain ⟨a, b, c, h1⟩ := h.ax; exact ⟨a, b, c, h1.drewN 1⟩, h.same, h.free⟩

theorem one_far {w : World} {lb : Nat} {sb : Nat} (h : w.cell? ⟨lb, 0, none⟩ = some (srcV sb)) : Far (one lb) w := fun b hb => by
  subst hb
  exact ⟨_, h, fun _ _ e => (by cases e), fun _ _ _ e => (by cases e)⟩
/-- the layout behind both -/
theorem axes_fin {w2 wc wd : World} {lb sb rb cb : Nat} {S : Sh} {V : Vw} (hL : LayAt w2 lb sb S V) (h1 : Put1 w2 wc lb 5 rb (rowAx S V)) (h2 : Put1 wc wd lb 6 cb (colAx S V)) :
    Kp (one lb) w2 (wd.setCell ⟨lb, 7, none⟩ (.int .u64 (S.steps : Int))) ∧ AxesAt (wd.setCell ⟨lb, 7, none⟩ (.int .u64 (S.steps : Int))) rb cb S V ∧ LayAt (wd.setCell ⟨lb, 7, none⟩ (.int .u64 (S.steps : Int))) lb sb S V ∧
      (wd.setCell ⟨lb, 7, none⟩ (.int .u64 (S.steps : Int))).cell? ⟨lb, 5, none⟩ = some (.pointer (some ⟨rb, 0, none⟩)) ∧ (wd.setCell ⟨lb, 7, none⟩ (.int .u64 (S.steps : Int))).cell? ⟨lb, 6, none⟩ = some (.pointer (some ⟨cb, 0, none⟩)) := by
  have kd : Kp (one lb) w2 wd := h1.kp.trans h2.kp
  have ks : Kp (one lb) wd (wd.setCell ⟨lb, 7, none⟩ (.int .u64 (S.steps : Int))) := Kp.set _ _ rfl
  have sc : ∀ j, j ≠ 5 → j ≠ 6 → wd.cell? ⟨lb, j, none⟩ = w2.cell? ⟨lb, j, none⟩ := fun j h5 h6 => (h2.same j h6).trans (h1.same j h5)
  have s9 : ∀ j, j ≠ 7 → (wd.setCell ⟨lb, 7, none⟩ (.int .u64 (S.steps : Int))).cell? ⟨lb, j, none⟩ = wd.cell? ⟨lb, j, none⟩ := fun j hj => cset_ne _ _ _ _ _ (Ne.symm hj)
  have srcc : wc.cell? ⟨lb, 0, none⟩ = some (srcV sb) := (h1.same 0 (by decide)).trans hL.src
  have srcd : wd.cell? ⟨lb, 0, none⟩ = some (srcV sb) := (sc 0 (by decide) (by decide)).trans hL.src
  obtain ⟨a1, a2, a3, hr⟩ := h1.ax
  obtain ⟨b1, b2, b3, hc⟩ := h2.ax
  have hr2 := (hr.far h2.kp (one_far srcc) (by show 0 < 64; omega) (by show 0 < 24; omega)).far ks (one_far srcd) (by show 0 < 64; omega) (by show 0 < 24; omega)
  have hc2 := hc.far ks (one_far srcd) (by show 0 < 26; omega) (by show 0 < 80; omega)
  have hA : AxesAt (wd.setCell ⟨lb, 7, none⟩ (.int .u64 (S.steps : Int))) rb cb S V := ⟨⟨_, _, _, hr2⟩, ⟨_, _, _, hc2⟩⟩
  have e5 : (wd.setCell ⟨lb, 7, none⟩ (.int .u64 (S.steps : Int))).cell? ⟨lb, 5, none⟩ = some (.pointer (some ⟨rb, 0, none⟩)) := (s9 5 (by decide)).trans ((h2.same 5 (by decide)).trans h1.at_)
  have e6 : (wd.setCell ⟨lb, 7, none⟩ (.int .u64 (S.steps : Int))).cell? ⟨lb, 6, none⟩ = some (.pointer (some ⟨cb, 0, none⟩)) := (s9 6 (by decide)).trans h2.at_
  obtain ⟨rp, cp, rev, _, _, c7, _⟩ := hL.kept
  have e7 : (wd.setCell ⟨lb, 7, none⟩ (.int .u64 (S.steps : Int))).cell? ⟨lb, 7, none⟩ = some (.int .u64 (S.steps : Int)) := cset_eq _ _ _ _ ((sc 7 (by decide) (by decide)).trans c7)
  have g : ∀ j u, j ≠ 5 → j ≠ 6 → j ≠ 7 → w2.cell? ⟨lb, j, none⟩ = some u → (wd.setCell ⟨lb, 7, none⟩ (.int .u64 (S.steps : Int))).cell? ⟨lb, j, none⟩ = some u := fun j u h5 h6 h7 hu => ((s9 j h7).trans (sc j h5 h6)).trans hu
  refine ⟨kd.trans ks, hA, ⟨g _ _ (by decide) (by decide) (by decide) hL.src, g _ _ (by decide) (by decide) (by decide) hL.c1, g _ _ (by decide) (by decide) (by decide) hL.c2, g _ _ (by decide) (by decide) (by decide) hL.c3, g _ _ (by decide) (by decide) (by decide) hL.c4, ⟨_, _, _, e5, e6, e7, Nat.le_refl _, Or.inr (Or.inr ⟨rb, cb, rfl, rfl, hA⟩)⟩, fun o => ?_⟩, e5, e6⟩
  rw [World.frozen?_setCell, h2.free, h1.free]
  exact hL.free o

def AxesPost (lb sb : Nat) (S : Sh) (V : Vw) (w : World) (e : Ending) (w' : World) : Prop :=
  ∃ rb cb, e = .returned (.tuple #[.pointer (some ⟨rb, 0, none⟩), .pointer (some ⟨cb, 0, none⟩)]) ∧ Kp (one lb) w w' ∧ AxesAt w' rb cb S V ∧ LayAt w' lb sb S V

set_option maxRecDepth 100000 in
set_option maxHeartbeats 2000000 in
theorem axes_at (w : World) (lb sb : Nat) (S : Sh) (V : Vw) (h : SheetAt w sb S) (hS : S.Ok) (hV : V.Ok) (hL : LayAt w lb sb S V) :
    Calls Try.prog 37 #[.pointer (some ⟨lb, 0, none⟩)] w (AxesPost lb sb S V w) := by
  have hm : ∀ w : World, (method 271 38 (.pointer (some ⟨sb, 0, none⟩)) "Revision").run Try.prog w = .ok (92, .pointer (some ⟨sb, 0, none⟩)) w := fun _ => by kernel_rfl
  have hmf : ∀ fn first cp w, (Instr.makeFunc fn first cp).run Try.prog w = .ok (.func fn first cp) w := fun _ _ _ _ => rfl
  have HR : Hid (Calls Try.prog 92 #[.pointer (some ⟨sb, 0, none⟩)] w fun e w' => e = .returned (.int .u64 (S.steps : Int)) ∧ w' = w) := revision_at w sb S h
  have c0 := hL.src
  unfold srcV at c0
  have c1 := hL.c1
  have c2 := hL.c2
  have c3 := hL.c3
  have c4 := hL.c4
  have hst := hS.steps
  obtain ⟨rp, cp, rev, c5, c6, c7, hr, hk⟩ := hL.kept
  by_cases hv : ∃ rb cb, rp = some ⟨rb, 0, none⟩ ∧ cp = some ⟨cb, 0, none⟩ ∧ AxesAt w rb cb S V ∧ rev = S.steps
  · obtain ⟨rb, cb, rfl, rfl, hA, rfl⟩ := hv
    have hd : ((S.steps : Int) != (S.steps : Int)) = false := by simp
    go_enter Try.func37, Try.ntmps37
    go_wp2_with fail
    refine HR.out.mono ?_
    rintro e w5 ⟨rfl, rfl⟩
    go_wp2_with fail
    go_quiet (fail)
    go_wp2_with fail
    go_ret2
    exact ⟨rb, cb, rfl, (Kp.refl _ _).drewN _, hA.on ((Kp.refl _ _).drewN _), hL.on ((Kp.refl _ _).drewN _)⟩
  · have hk2 : rp = none ∨ ((∃ a, rp = some a) ∧ rev < S.steps) := by
      rcases hk with hk | hk | ⟨rb, cb, e1, e2, hk⟩
      · exact Or.inl hk
      · cases rp with
        | none => exact Or.inl rfl
        | some a => exact Or.inr ⟨⟨a, rfl⟩, hk⟩
      · refine Or.inr ⟨⟨_, e1⟩, ?_⟩
        rcases Nat.lt_or_ge rev S.steps with h' | h'
        · exact h'
        · exact absurd ⟨rb, cb, e1, e2, hk, by omega⟩ hv
    clear hk hv
    obtain ⟨w2, hw2⟩ : ∃ w2, w2 = w.alloc (.cells #[.int .i64 (V.fr : Int), .int .i64 (V.fc : Int), .int .i64 (V.sr : Int), .int .i64 (V.sc : Int)] 44) := ⟨_, rfl⟩
    obtain ⟨vb, hvb⟩ : ∃ vb, vb = w.heap.size := ⟨_, rfl⟩
    have HK2 : Hid (Kp no w w2) := by show Kp no w w2; rw [hw2]; exact (Kp.refl _ _).alloc _
    have HV2 : Hid (w2.cell? ⟨vb, 0, none⟩ = some (.int .i64 (V.fr : Int)) ∧ w2.cell? ⟨vb, 1, none⟩ = some (.int .i64 (V.fc : Int)) ∧ w2.cell? ⟨vb, 2, none⟩ = some (.int .i64 (V.sr : Int)) ∧ w2.cell? ⟨vb, 3, none⟩ = some (.int .i64 (V.sc : Int))) := by
      subst hw2 hvb
      exact ⟨by simp, by simp, by simp, by simp⟩
    have HL2 : Hid (LayAt w2 lb sb S V) := hL.on HK2.out
    have HS2 : Hid (SheetAt w2 sb S) := h.on HK2.out
    have hlv : Hid (lb ≠ vb) := by show lb ≠ vb; rw [hvb]; exact Nat.ne_of_lt hL.lt
    have HN1 : Hid (∀ w' : World, Kp no w2 w' → Calls Try.prog 48 #[.int .i64 64, .int .i64 24, .int .i64 (V.fr : Int), .int .i64 (V.sr : Int), .func (.method "RowHeight") #[.iface 38 (.pointer (some ⟨sb, 0, none⟩))] #[], .func (.method "RowHidden") #[.iface 38 (.pointer (some ⟨sb, 0, none⟩))] #[]] w' (NAPost 64 24 V.fr V.sr (rowSz S) w')) := fun w' k => newAxis_row w' sb S V (HS2.out.on k) hS hV
    clear h hL
    go_enter Try.func37, Try.ntmps37
    go_wp2_with fail
    refine HR.out.mono ?_
    rintro e w5 ⟨rfl, hw5⟩
    obtain rfl := hw5.symm
    clear hw5
    go_upto_region 2 with fail
    go_cut [23] (fun s23 wx => s23 = .bool true ∧ wx = w)
    case first =>
      rcases hk2 with rfl | ⟨⟨a, rfl⟩, hlt⟩
      · go_wp2_with fail
        go_meet
        exact ⟨rfl, rfl⟩
      · have hd : ((S.steps : Int) != (rev : Int)) = true := by simp; omega
        go_wp2_with fail
        go_meet
        exact ⟨rfl, rfl⟩
    case rest =>
      obtain ⟨rfl, hw5⟩ := hcut
      obtain rfl := hw5.symm
      go_upto_region 4 with fail
      rw [← hvb, ← hw2]
      have d0 := HK2.out.cell c0 id
      have d5 := HK2.out.cell c5 id
      have d6 := HK2.out.cell c6 id
      have d7 := HK2.out.cell c7 id
      obtain ⟨v0, v1, v2, v3⟩ := HV2.out
      have hf := HL2.out.free
      have f5 := hf 5
      have hlt : lb < w2.heap.size := HL2.out.lt
      clear hw2 hvb c0 c1 c2 c3 c4 c5 c6 c7 hf
      go_cut [] (fun wx => ∃ rb, Put1 w2 wx lb 5 rb (rowAx S V))
      case first =>
        have hne : lb ≠ vb := hlv.out
        go_region_held3 (fun w' => w'.cell? ⟨lb, 0, none⟩ = some (.iface 38 (.pointer (some ⟨sb, 0, none⟩))) ∧ w'.cell? ⟨vb, 0, none⟩ = some (.int .i64 (V.fr : Int)) ∧ w'.cell? ⟨vb, 2, none⟩ = some (.int .i64 (V.sr : Int)))
          (refine ⟨?_, ?_, ?_⟩ <;> first | assumption | (rw [cset_ne _ _ _ _ _ (by decide)]; assumption) | (rw [World.cell?_setCell_far _ _ _ _ hne]; assumption))
          (first | (go_at_call 48; refine (HN1.out _ (by first | exact (Kp.refl no _).drew | exact Kp.refl no _)).mono ?_; rintro e w5 ⟨ab, zb, tb, l, rfl, kp5, hA, hn⟩; have y5 := kp5.cell (p := ⟨lb, 5, none⟩) d5 id; have y5f := (kp5.frozen (p := ⟨lb, 5, none⟩) hlt id).trans f5; have y0 := kp5.cell (p := ⟨lb, 0, none⟩) d0 id; have y1 := kp5.cell (p := ⟨vb, 0, none⟩) v0 id; have y2 := kp5.cell (p := ⟨vb, 2, none⟩) v2 id))
        all_goals go_wp2_with fail
        all_goals go_meet
        all_goals exact ⟨ab, Put1.of d5 d0 (fun _ _ e => (by cases e)) (fun _ _ _ e => (by cases e)) kp5 hA (by show 0 < 64; omega) (by show 0 < 24; omega)⟩
      case rest =>
        obtain ⟨rb, hp1⟩ := hcut
        obtain ⟨w4, rfl⟩ : ∃ w4, w4 = wc := ⟨_, rfl⟩
        have hne : vb ≠ lb := hlv.out.symm
        have x0 : w4.cell? ⟨lb, 0, none⟩ = some (.iface 38 (.pointer (some ⟨sb, 0, none⟩))) := (hp1.same 0 (by decide)).trans d0
        have x6 : w4.cell? ⟨lb, 6, none⟩ = some (.pointer cp) := (hp1.same 6 (by decide)).trans d6
        have x7 : w4.cell? ⟨lb, 7, none⟩ = some (.int .u64 (rev : Int)) := (hp1.same 7 (by decide)).trans d7
        have x1 := hp1.kp.cell v1 hne
        have x3 := hp1.kp.cell v3 hne
        have f6 : w4.frozen? ⟨lb, 6, none⟩ = false := (hp1.free 6).trans (HL2.out.free 6)
        have f7 : w4.frozen? ⟨lb, 7, none⟩ = false := (hp1.free 7).trans (HL2.out.free 7)
        have hltc : lb < w4.heap.size := Nat.lt_of_lt_of_le hlt hp1.kp.size
        have HN2 : Hid (∀ w' : World, Kp no w4 w' → Calls Try.prog 48 #[.int .i64 26, .int .i64 80, .int .i64 (V.fc : Int), .int .i64 (V.sc : Int), .func (.method "ColWidth") #[.iface 38 (.pointer (some ⟨sb, 0, none⟩))] #[], .func (.method "ColHidden") #[.iface 38 (.pointer (some ⟨sb, 0, none⟩))] #[]] w' (NAPost 26 80 V.fc V.sc (colSz S) w')) := fun w' k => newAxis_col w' sb S V ((HS2.out.far hp1.kp HL2.out.farOne).on k) hS hV
        clear d0 d5 d6 d7 v0 v1 v2 v3 f5
        go_wp2_with fail
        go_cut [] (fun wx => ∃ cb, Put1 w4 wx lb 6 cb (colAx S V))
        case first =>
          have hne2 : lb ≠ vb := hlv.out
          go_region_held3 (fun w' => w'.cell? ⟨lb, 0, none⟩ = some (.iface 38 (.pointer (some ⟨sb, 0, none⟩))) ∧ w'.cell? ⟨vb, 1, none⟩ = some (.int .i64 (V.fc : Int)) ∧ w'.cell? ⟨vb, 3, none⟩ = some (.int .i64 (V.sc : Int)))
            (refine ⟨?_, ?_, ?_⟩ <;> first | assumption | (rw [cset_ne _ _ _ _ _ (by decide)]; assumption) | (rw [World.cell?_setCell_far _ _ _ _ hne2]; assumption))
            (first | (go_at_call 48; refine (HN2.out _ (by first | exact (Kp.refl no _).drew | exact Kp.refl no _)).mono ?_; rintro e w5 ⟨ab, zb, tb, l, rfl, kp5, hA, hn⟩; have y5 := kp5.cell (p := ⟨lb, 6, none⟩) x6 id; have y5f := (kp5.frozen (p := ⟨lb, 6, none⟩) hltc id).trans f6; have y0 := kp5.cell (p := ⟨lb, 0, none⟩) x0 id; have y1 := kp5.cell (p := ⟨vb, 1, none⟩) x1 id; have y2 := kp5.cell (p := ⟨vb, 3, none⟩) x3 id))
          all_goals go_wp2_with fail
          all_goals go_meet
          all_goals exact ⟨ab, Put1.of x6 x0 (fun _ _ e => (by cases e)) (fun _ _ _ e => (by cases e)) kp5 hA (by show 0 < 26; omega) (by show 0 < 80; omega)⟩
        case rest =>
          obtain ⟨cb, hp2⟩ := hcut
          have z7 : wc.cell? ⟨lb, 7, none⟩ = some (.int .u64 (rev : Int)) := (hp2.same 7 (by decide)).trans x7
          have z7f : wc.frozen? ⟨lb, 7, none⟩ = false := (hp2.free 7).trans f7
          have hfin := axes_fin HL2.out hp1 hp2
          clear x0 x6 x7 x1 x3 f6 f7 HN2
          go_upto_region 7 with fail
          generalize wc.setCell ⟨lb, 7, none⟩ (.int .u64 (S.steps : Int)) = w9 at hfin ⊢
          obtain ⟨q1, q2, q3, q4, q5⟩ := hfin
          go_quiet (fail)
          go_wp2_with fail
          go_ret2
          exact ⟨rb, cb, rfl, ((Kp.of_no HK2.out).trans q1).drewN _, q2.on ((Kp.refl _ _).drewN _), q3.on ((Kp.refl _ _).drewN _)⟩
end Go.Proofs.Qxb6500653a
