/-
  axes (37) where the geometry is laid and holds: nothing at all is written; and behind every call of it, it is laid.
-/
import Derived.Test.Qxb6500653aAxes
namespace Go.Proofs.Qxb6500653a
open Go.RowKit

/-- the geometry is laid, and holds -/
def Cached (w : World) (lb : Nat) (S : Sh) (V : Vw) : Prop :=
  ∃ rb cb, w.cell? ⟨lb, 5, none⟩ = some (.pointer (some ⟨rb, 0, none⟩)) ∧ w.cell? ⟨lb, 6, none⟩ = some (.pointer (some ⟨cb, 0, none⟩)) ∧ w.cell? ⟨lb, 7, none⟩ = some (.int .u64 (S.steps : Int)) ∧ AxesAt w rb cb S V
theorem Cached.on {w w' : World} {lb : Nat} {S : Sh} {V : Vw} (h : Cached w lb S V) (k : Kp no w w') : Cached w' lb S V := by
  obtain ⟨rb, cb, h1, h2, h3, h4⟩ := h
  exact ⟨rb, cb, k.cell h1 id, k.cell h2 id, k.cell h3 id, h4.on k⟩
theorem Cached.far {X : Nat → Prop} {w w' : World} {lb : Nat} {S : Sh} {V : Vw} (h : Cached w lb S V) (k : Kp X w w') (hX : Far X w) (hl : ¬ X lb) : Cached w' lb S V := by
  obtain ⟨rb, cb, h1, h2, h3, h4⟩ := h
  exact ⟨rb, cb, k.cell h1 hl, k.cell h2 hl, k.cell h3 hl, h4.far k hX⟩
def AxesPostK (lb sb : Nat) (S : Sh) (V : Vw) (w : World) (e : Ending) (w' : World) : Prop :=
  ∃ rb cb, e = .returned (.tuple #[.pointer (some ⟨rb, 0, none⟩), .pointer (some ⟨cb, 0, none⟩)]) ∧ Kp no w w' ∧ AxesAt w' rb cb S V ∧ LayAt w' lb sb S V
def AxesPostC (lb sb : Nat) (S : Sh) (V : Vw) (w : World) (e : Ending) (w' : World) : Prop :=
  ∃ rb cb, e = .returned (.tuple #[.pointer (some ⟨rb, 0, none⟩), .pointer (some ⟨cb, 0, none⟩)]) ∧ Kp (one lb) w w' ∧ AxesAt w' rb cb S V ∧ LayAt w' lb sb S V ∧ Cached w' lb S V

set_option maxRecDepth 100000 in
set_option maxHeartbeats 2000000 in
theorem axesK_at (w : World) (lb sb : Nat) (S : Sh) (V : Vw) (h : SheetAt w sb S) (hL : LayAt w lb sb S V) (hC : Cached w lb S V) :
    Calls Try.prog 37 #[.pointer (some ⟨lb, 0, none⟩)] w (AxesPostK lb sb S V w) := by
  have hm : ∀ w : World, (method 271 38 (.pointer (some ⟨sb, 0, none⟩)) "Revision").run Try.prog w = .ok (92, .pointer (some ⟨sb, 0, none⟩)) w := fun _ => by kernel_rfl
  have hmf : ∀ fn first cp w, (Instr.makeFunc fn first cp).run Try.prog w = .ok (.func fn first cp) w := fun _ _ _ _ => rfl
  have HR : Hid (Calls Try.prog 92 #[.pointer (some ⟨sb, 0, none⟩)] w fun e w' => e = .returned (.int .u64 (S.steps : Int)) ∧ w' = w) := revision_at w sb S h
  have c0 := hL.src
  unfold srcV at c0
  have c1 := hL.c1
  have c2 := hL.c2
  have c3 := hL.c3
  have c4 := hL.c4
  obtain ⟨rb, cb, c5, c6, c7, hA⟩ := hC
  have hd : ((S.steps : Int) != (S.steps : Int)) = false := by simp
  go_enter Try.func37, Try.ntmps37
  go_wp2_with fail
  refine HR.out.mono ?_
  rintro e w5 ⟨rfl, rfl⟩
  go_wp2_with fail
  go_quiet (fail)
  go_wp2_with fail
  go_ret2
  exact ⟨rb, cb, rfl, (Kp.refl _ _).drewN _, hA.on ((Kp.refl _ _).drewN _), hL.on ((Kp.refl _ _).drewN _)⟩
set_option maxRecDepth 100000 in
set_option maxHeartbeats 2000000 in
theorem axesC_at (w : World) (lb sb : Nat) (S : Sh) (V : Vw) (h : SheetAt w sb S) (hS : S.Ok) (hV : V.Ok) (hL : LayAt w lb sb S V) :
    Calls Try.prog 37 #[.pointer (some ⟨lb, 0, none⟩)] w (AxesPostC lb sb S V w) := by
  have hm : ∀ w : World, (method 271 38 (.pointer (some ⟨sb, 0, none⟩)) "Revision").run Try.prog w = .ok (92, .pointer (some ⟨sb, 0, none⟩)) w := fun _ => by kernel_rfl
  have hmf : ∀ fn first cp w, (Instr.makeFunc fn first cp).run Try.prog w = .ok (.func fn first cp) w := fun _ _ _ _ => rfl
  have HR : Hid (Calls Try.prog 92 #[.pointer (some ⟨sb, 0, none⟩)] w fun e w' => e = .returned (.int .u64 (S.steps : Int)) ∧ w' = w) := revision_at w sb S h
  have c0 := hL.src
  unfold srcV at c0
  have c1 := hL.c1
  have c2 := hL.c2
  have c3 := hL.c3
  have c4 := hL.c4
  have hst := hS.steps
  obtain ⟨rp, cp, rev, c5, c6, c7, hr, hk⟩ := hL.kept
  by_cases hv : ∃ rb cb, rp = some ⟨rb, 0, none⟩ ∧ cp = some ⟨cb, 0, none⟩ ∧ AxesAt w rb cb S V ∧ rev = S.steps
  · obtain ⟨rb, cb, rfl, rfl, hA, rfl⟩ := hv
    have hd : ((S.steps : Int) != (S.steps : Int)) = false := by simp
    go_enter Try.func37, Try.ntmps37
    go_wp2_with fail
    refine HR.out.mono ?_
    rintro e w5 ⟨rfl, rfl⟩
    go_wp2_with fail
    go_quiet (fail)
    go_wp2_with fail
    go_ret2
    exact ⟨rb, cb, rfl, (Kp.refl _ _).drewN _, hA.on ((Kp.refl _ _).drewN _), hL.on ((Kp.refl _ _).drewN _), ⟨rb, cb, ((Kp.refl no _).drewN _).cell c5 id, ((Kp.refl no _).drewN _).cell c6 id, ((Kp.refl no _).drewN _).cell c7 id, hA.on ((Kp.refl _ _).drewN _)⟩⟩
  · have hk2 : rp = none ∨ ((∃ a, rp = some a) ∧ rev < S.steps) := by
      rcases hk with hk | hk | ⟨rb, cb, e1, e2, hk⟩
      · exact Or.inl hk
      · cases rp with
        | none => exact Or.inl rfl
        | some a => exact Or.inr ⟨⟨a, rfl⟩, hk⟩
      · refine Or.inr ⟨⟨_, e1⟩, ?_⟩
        rcases Nat.lt_or_ge rev S.steps with h' | h'
        · exact h'
        · exact absurd ⟨rb, cb, e1, e2, hk, by omega⟩ hv
    clear hk hv
    obtain ⟨w2, hw2⟩ : ∃ w2, w2 = w.alloc (.cells #[.int .i64 (V.fr : Int), .int .i64 (V.fc : Int), .int .i64 (V.sr : Int), .int .i64 (V.sc : Int)] 44) := ⟨_, rfl⟩
    obtain ⟨vb, hvb⟩ : ∃ vb, vb = w.heap.size := ⟨_, rfl⟩
    have HK2 : Hid (Kp no w w2) := by show Kp no w w2; rw [hw2]; exact (Kp.refl _ _).alloc _
    have HV2 : Hid (w2.cell? ⟨vb, 0, none⟩ = some (.int .i64 (V.fr : Int)) ∧ w2.cell? ⟨vb, 1, none⟩ = some (.int .i64 (V.fc : Int)) ∧ w2.cell? ⟨vb, 2, none⟩ = some (.int .i64 (V.sr : Int)) ∧ w2.cell? ⟨vb, 3, none⟩ = some (.int .i64 (V.sc : Int))) := by
      subst hw2 hvb
      exact ⟨by simp, by simp, by simp, by simp⟩
    have HL2 : Hid (LayAt w2 lb sb S V) := hL.on HK2.out
    have HS2 : Hid (SheetAt w2 sb S) := h.on HK2.out
    have hlv : Hid (lb ≠ vb) := by show lb ≠ vb; rw [hvb]; exact Nat.ne_of_lt hL.lt
    have HN1 : Hid (∀ w' : World, Kp no w2 w' → Calls Try.prog 48 #[.int .i64 64, .int .i64 24, .int .i64 (V.fr : Int), .int .i64 (V.sr : Int), .func (.method "RowHeight") #[.iface 38 (.pointer (some ⟨sb, 0, none⟩))] #[], .func (.method "RowHidden") #[.iface 38 (.pointer (some ⟨sb, 0, none⟩))] #[]] w' (NAPost 64 24 V.fr V.sr (rowSz S) w')) := fun w' k => newAxis_row w' sb S V (HS2.out.on k) hS hV
    clear h hL
    go_enter Try.func37, Try.ntmps37
    go_wp2_with fail
    refine HR.out.mono ?_
    rintro e w5 ⟨rfl, hw5⟩
    obtain rfl := hw5.symm
    clear hw5
    go_upto_region 2 with fail
    go_cut [23] (fun s23 wx => s23 = .bool true ∧ wx = w)
    case first =>
      rcases hk2 with rfl | ⟨⟨a, rfl⟩, hlt⟩
      · go_wp2_with fail
        go_meet
        exact ⟨rfl, rfl⟩
      · have hd : ((S.steps : Int) != (rev : Int)) = true := by simp; omega
        go_wp2_with fail
        go_meet
        exact ⟨rfl, rfl⟩
    case rest =>
      obtain ⟨rfl, hw5⟩ := hcut
      obtain rfl := hw5.symm
      go_upto_region 4 with fail
      rw [← hvb, ← hw2]
      have d0 := HK2.out.cell c0 id
      have d5 := HK2.out.cell c5 id
      have d6 := HK2.out.cell c6 id
      have d7 := HK2.out.cell c7 id
      obtain ⟨v0, v1, v2, v3⟩ := HV2.out
      have hf := HL2.out.free
      have f5 := hf 5
      have hlt : lb < w2.heap.size := HL2.out.lt
      clear hw2 hvb c0 c1 c2 c3 c4 c5 c6 c7 hf
      go_cut [] (fun wx => ∃ rb, Put1 w2 wx lb 5 rb (rowAx S V))
      case first =>
        have hne : lb ≠ vb := hlv.out
        go_region_held3 (fun w' => w'.cell? ⟨lb, 0, none⟩ = some (.iface 38 (.pointer (some ⟨sb, 0, none⟩))) ∧ w'.cell? ⟨vb, 0, none⟩ = some (.int .i64 (V.fr : Int)) ∧ w'.cell? ⟨vb, 2, none⟩ = some (.int .i64 (V.sr : Int)))
          (refine ⟨?_, ?_, ?_⟩ <;> first | assumption | (rw [cset_ne _ _ _ _ _ (by decide)]; assumption) | (rw [World.cell?_setCell_far _ _ _ _ hne]; assumption))
          (first | (go_at_call 48; refine (HN1.out _ (by first | exact (Kp.refl no _).drew | exact Kp.refl no _)).mono ?_; rintro e w5 ⟨ab, zb, tb, l, rfl, kp5, hA, hn⟩; have y5 := kp5.cell (p := ⟨lb, 5, none⟩) d5 id; have y5f := (kp5.frozen (p := ⟨lb, 5, none⟩) hlt id).trans f5; have y0 := kp5.cell (p := ⟨lb, 0, none⟩) d0 id; have y1 := kp5.cell (p := ⟨vb, 0, none⟩) v0 id; have y2 := kp5.cell (p := ⟨vb, 2, none⟩) v2 id))
        all_goals go_wp2_with fail
        all_goals go_meet
        all_goals exact ⟨ab, Put1.of d5 d0 (fun _ _ e => (by cases e)) (fun _ _ _ e => (by cases e)) kp5 hA (by show 0 < 64; omega) (by show 0 < 24; omega)⟩
      case rest =>
        obtain ⟨rb, hp1⟩ := hcut
        obtain ⟨w4, rfl⟩ : ∃ w4, w4 = wc := ⟨_, rfl⟩
        have hne : vb ≠ lb := hlv.out.symm
        have x0 : w4.cell? ⟨lb, 0, none⟩ = some (.iface 38 (.pointer (some ⟨sb, 0, none⟩))) := (hp1.same 0 (by decide)).trans d0
        have x6 : w4.cell? ⟨lb, 6, none⟩ = some (.pointer cp) := (hp1.same 6 (by decide)).trans d6
        have x7 : w4.cell? ⟨lb, 7, none⟩ = some (.int .u64 (rev : Int)) := (hp1.same 7 (by decide)).trans d7
        have x1 := hp1.kp.cell v1 hne
        have x3 := hp1.kp.cell v3 hne
        have f6 : w4.frozen? ⟨lb, 6, none⟩ = false := (hp1.free 6).trans (HL2.out.free 6)
        have f7 : w4.frozen? ⟨lb, 7, none⟩ = false := (hp1.free 7).trans (HL2.out.free 7)
        have hltc : lb < w4.heap.size := Nat.lt_of_lt_of_le hlt hp1.kp.size
        have HN2 : Hid (∀ w' : World, Kp no w4 w' → Calls Try.prog 48 #[.int .i64 26, .int .i64 80, .int .i64 (V.fc : Int), .int .i64 (V.sc : Int), .func (.method "ColWidth") #[.iface 38 (.pointer (some ⟨sb, 0, none⟩))] #[], .func (.method "ColHidden") #[.iface 38 (.pointer (some ⟨sb, 0, none⟩))] #[]] w' (NAPost 26 80 V.fc V.sc (colSz S) w')) := fun w' k => newAxis_col w' sb S V ((HS2.out.far hp1.kp HL2.out.farOne).on k) hS hV
        clear d0 d5 d6 d7 v0 v1 v2 v3 f5
        go_wp2_with fail
        go_cut [] (fun wx => ∃ cb, Put1 w4 wx lb 6 cb (colAx S V))
        case first =>
          have hne2 : lb ≠ vb := hlv.out
          go_region_held3 (fun w' => w'.cell? ⟨lb, 0, none⟩ = some (.iface 38 (.pointer (some ⟨sb, 0, none⟩))) ∧ w'.cell? ⟨vb, 1, none⟩ = some (.int .i64 (V.fc : Int)) ∧ w'.cell? ⟨vb, 3, none⟩ = some (.int .i64 (V.sc : Int)))
            (refine ⟨?_, ?_, ?_⟩ <;> first | assumption | (rw [cset_ne _ _ _ _ _ (by decide)]; assumption) | (rw [World.cell?_setCell_far _ _ _ _ hne2]; assumption))
            (first | (go_at_call 48; refine (HN2.out _ (by first | exact (Kp.refl no _).drew | exact Kp.refl no _)).mono ?_; rintro e w5 ⟨ab, zb, tb, l, rfl, kp5, hA, hn⟩; have y5 := kp5.cell (p := ⟨lb, 6, none⟩) x6 id; have y5f := (kp5.frozen (p := ⟨lb, 6, none⟩) hltc id).trans f6; have y0 := kp5.cell (p := ⟨lb, 0, none⟩) x0 id; have y1 := kp5.cell (p := ⟨vb, 1, none⟩) x1 id; have y2 := kp5.cell (p := ⟨vb, 3, none⟩) x3 id))
          all_goals go_wp2_with fail
          all_goals go_meet
          all_goals exact ⟨ab, Put1.of x6 x0 (fun _ _ e => (by cases e)) (fun _ _ _ e => (by cases e)) kp5 hA (by show 0 < 26; omega) (by show 0 < 80; omega)⟩
        case rest =>
          obtain ⟨cb, hp2⟩ := hcut
          have z7 : wc.cell? ⟨lb, 7, none⟩ = some (.int .u64 (rev : Int)) := (hp2.same 7 (by decide)).trans x7
          have z7f : wc.frozen? ⟨lb, 7, none⟩ = false := (hp2.free 7).trans f7
          have hfin := axes_fin HL2.out hp1 hp2
          have H77 : Hid ((wc.setCell ⟨lb, 7, none⟩ (.int .u64 (S.steps : Int))).cell? ⟨lb, 7, none⟩ = some (.int .u64 (S.steps : Int))) := cset_eq _ _ _ _ z7
          clear x0 x6 x7 x1 x3 f6 f7 HN2
          go_upto_region 7 with fail
          generalize wc.setCell ⟨lb, 7, none⟩ (.int .u64 (S.steps : Int)) = w9 at hfin H77 ⊢
          obtain ⟨q1, q2, q3, q4, q5⟩ := hfin
          go_quiet (fail)
          go_wp2_with fail
          go_ret2
          exact ⟨rb, cb, rfl, ((Kp.of_no HK2.out).trans q1).drewN _, q2.on ((Kp.refl _ _).drewN _), q3.on ((Kp.refl _ _).drewN _), ⟨rb, cb, ((Kp.refl no _).drewN _).cell q4 id, ((Kp.refl no _).drewN _).cell q5 id, ((Kp.refl no _).drewN _).cell H77.out id, q2.on ((Kp.refl _ _).drewN _)⟩⟩
end Go.Proofs.Qxb6500653a
