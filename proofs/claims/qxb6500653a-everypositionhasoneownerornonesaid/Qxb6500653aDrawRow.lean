/-
  drawRow (56): the walk.
-/
import Derived.Test.Qxb6500653aDrawRowSt
import Derived.Deep.RegionHeld3
import Derived.Laws.Cover1
namespace Go.Proofs.Qxb6500653a
open Go.RowKit

theorem Boo.ne {X : Nat → Prop} {w : World} {b : Nat} {v : Value} (h : Boo X w) (hc : w.cell? ⟨b, 0, none⟩ = some v) (hv : ∀ t, v ≠ .bool t) : ¬ X b := fun hx => by
  obtain ⟨t, ht⟩ := h b hx
  rw [hc] at ht
  exact hv t (Option.some.inj ht)
theorem cells3d (w : World) (x y z : Value) (t1 t2 t3 : TypeId) :
    (((w.alloc (.cells #[x] t1)).alloc (.cells #[y] t2)).alloc (.cells #[z] t3)).cell? ⟨w.heap.size, 0, none⟩ = some x ∧ (((w.alloc (.cells #[x] t1)).alloc (.cells #[y] t2)).alloc (.cells #[z] t3)).cell? ⟨w.heap.size + 1, 0, none⟩ = some y ∧
      (((w.alloc (.cells #[x] t1)).alloc (.cells #[y] t2)).alloc (.cells #[z] t3)).cell? ⟨w.heap.size + 1 + 1, 0, none⟩ = some z := by
  have e1 : (w.alloc (.cells #[x] t1)).heap.size = w.heap.size + 1 := by simp
  have e2 : ((w.alloc (.cells #[x] t1)).alloc (.cells #[y] t2)).heap.size = w.heap.size + 1 + 1 := by simp
  have a1 : (w.alloc (.cells #[x] t1)).cell? ⟨w.heap.size, 0, none⟩ = some x := by simp
  have a2 : ((w.alloc (.cells #[x] t1)).alloc (.cells #[y] t2)).cell? ⟨(w.alloc (.cells #[x] t1)).heap.size, 0, none⟩ = some y := (World.cell?_alloc_new (w.alloc (.cells #[x] t1)) #[y] t2 0).trans rfl
  have a3 : (((w.alloc (.cells #[x] t1)).alloc (.cells #[y] t2)).alloc (.cells #[z] t3)).cell? ⟨((w.alloc (.cells #[x] t1)).alloc (.cells #[y] t2)).heap.size, 0, none⟩ = some z := (World.cell?_alloc_new ((w.alloc (.cells #[x] t1)).alloc (.cells #[y] t2)) #[z] t3 0).trans rfl
  rw [e1] at a2
  rw [e2] at a3
  have k : ∀ (v : World) o, Kp no v (v.alloc o) := fun v o => (Kp.refl _ _).alloc o
  exact ⟨(k _ _).cell ((k _ _).cell a1 id) id, (k _ _).cell a2 id, a3⟩
theorem boo_line {w w' : World} {g off : Nat} {L : Nat → Spot} (h : LineAt w' g off L) (hp : LinePut g off w w') (hb : Boo (one g) w) : Boo (one g) w' := fun b e => by
  have hb0 := hb b e
  have e' : b = g := e
  subst e'
  rcases Nat.eq_zero_or_pos off with h0 | h0
  · subst h0; exact ⟨_, (h.at_ 0 (by omega)).c0⟩
  · obtain ⟨t, ht⟩ := hb0
    exact ⟨t, (hp.out 0 (Or.inl h0)).trans ht⟩
theorem extL_stop {S : Sh} {V : Vw} {row first : Nat} {st : Int} {j : Nat} {lf : Int} (h : ¬ (st < lf ∧ first + 1 ≤ j ∧ passB S row (j - 1) = true)) : extL S V row first st j lf = lf := by
  cases j with
  | zero => rfl
  | succ j =>
    simp only [extL]
    rw [if_neg]
    rintro ⟨a, b, c⟩
    exact h ⟨a, by omega, by simpa using c⟩
theorem extR_stop {S : Sh} {V : Vw} {row : Nat} {tot : Int} {k n : Nat} {rt : Int} (h : ¬ (rt < tot ∧ 0 < k ∧ passB S row n = true)) : extR S V row tot k n rt = rt := by
  cases k with
  | zero => rfl
  | succ k =>
    simp only [extR]
    rw [if_neg]
    rintro ⟨a, c⟩
    exact h ⟨a, by omega, c⟩

/-- what a cell shows, in a block of the call's own -/
structure Box3 (w w' : World) (b : Nat) (x0 x1 x2 : Value) : Prop where
  kp : Kp no w w'
  c0 : w'.cell? ⟨b, 0, none⟩ = some x0
  c1 : w'.cell? ⟨b, 1, none⟩ = some x1
  c2 : w'.cell? ⟨b, 2, none⟩ = some x2
theorem alloc3d {w w' : World} {x0 x1 x2 : Value} {t : TypeId} (k : Kp no (w.alloc (.cells #[x0, x1, x2] t)).drew w') :
    w'.cell? ⟨w.heap.size, 0, none⟩ = some x0 ∧ w'.cell? ⟨w.heap.size, 1, none⟩ = some x1 ∧ w'.cell? ⟨w.heap.size, 2, none⟩ = some x2 ∧
      w'.frozen? ⟨w.heap.size, 0, none⟩ = false ∧ w'.frozen? ⟨w.heap.size, 1, none⟩ = false ∧ w'.frozen? ⟨w.heap.size, 2, none⟩ = false := by
  have hl : w.heap.size < (w.alloc (.cells #[x0, x1, x2] t)).drew.heap.size := by simp
  have hf : ∀ o, w'.frozen? ⟨w.heap.size, o, none⟩ = false := fun o => by rw [k.frozen (p := ⟨w.heap.size, o, none⟩) hl id]; show (w.alloc _).frozen? _ = _; simp
  refine ⟨k.cell (by show (w.alloc _).cell? _ = _; simp) id, k.cell (by show (w.alloc _).cell? _ = _; simp) id, k.cell (by show (w.alloc _).cell? _ = _; simp) id, hf _, hf _, hf _⟩
theorem Box3.after {w w5 : World} {x0 x1 x2 : Value} {t : TypeId} (k : Kp no w.drew w5) : Box3 w (w5.alloc (.cells #[x0, x1, x2] t)) w5.heap.size x0 x1 x2 :=
  ⟨k.drew_left.alloc _, by simp, by simp, by simp⟩
theorem Box3.before {w w5 : World} {x0 x1 x2 : Value} (y0 y1 y2 : Value) {t : TypeId} (k : Kp no (w.alloc (.cells #[x0, x1, x2] t)).drew w5) : Box3 w (put3 w5 w.heap.size y0 y1 y2) w.heap.size y0 y1 y2 := by
  obtain ⟨m0, m1, m2, _⟩ := alloc3d k
  obtain ⟨q0, q1, q2⟩ := put3_at m0 m1 m2 y0 y1 y2
  have k0 : Kp no w w5 := ((Kp.refl _ _).alloc _).trans k.drew_left
  exact ⟨k0.put3 (fun h => absurd h (Nat.lt_irrefl _)) _ _ _, q0, q1, q2⟩
theorem PassEnv.boo {X : Nat → Prop} {w w' : World} {b9 b11 b7 cb lb sb : Nat} {S : Sh} {V : Vw} {row : Nat} (h : PassEnv w b9 b11 b7 cb lb sb S V row) (k : Kp X w w') (hX : Boo X w) : PassEnv w' b9 b11 b7 cb lb sb S V row :=
  ⟨k.cell h.c9 (hX.ne h.c9 fun _ e => (by cases e)), k.cell h.c11 (hX.ne h.c11 fun _ e => (by cases e)), k.cell h.c7 (hX.ne h.c7 fun _ e => (by cases e)), k.cell h.src (hX.ne h.src fun _ e => (by cases e)),
    by obtain ⟨a, b, c, h1⟩ := h.ax; exact ⟨a, b, c, h1.far k hX.far (by show 0 < 26; omega) (by show 0 < 80; omega)⟩, h.sh.far k hX.far⟩

set_option maxRecDepth 100000 in
set_option maxHeartbeats 4000000 in
theorem drawRow_at (w : World) (g off : Nat) (L : Nat → Spot) (hl : LineAt w g off L) (hg0 : ∃ b, w.cell? ⟨g, 0, none⟩ = some (.bool b)) (lb sb cb : Nat) (S : Sh) (V : Vw) (hsh : SheetAt w sb S) (hsrc : w.cell? ⟨lb, 0, none⟩ = some (srcV sb)) (hax : ∃ zb tb l, AxAt w cb (colAx S V zb tb l)) (hS : S.Ok) (hV : V.Ok)
    (i bo : Nat) (hi : i < 2) (hbo : bo = 2 + i * 4) (row x0 x1 : Nat) (hr : row < 64) (hx1 : x1 ≤ 80) :
    Calls Try.prog 56 #[.pointer (some ⟨lb, 0, none⟩), .slice (some ⟨g, off, none⟩) 80 80, .pointer (some ⟨cb, 0, none⟩), .pointer (some ⟨cb, bo, none⟩), .int .i64 (row : Int), .int .i64 (x0 : Int), .int .i64 (x1 : Int)] w
      fun e w' => e = .returned (.tuple #[]) ∧ LineAt w' g off (rowAll S V i row x0 x1 L) ∧ LinePut g off w w' := by
  have hmf : ∀ fn first cp w, (Instr.makeFunc fn first cp).run Try.prog w = .ok (.func fn first cp) w := fun _ _ _ _ => rfl
  obtain ⟨w1, hw1⟩ : ∃ w1, w1 = ((w.alloc (.cells #[.pointer (some ⟨lb, 0, none⟩)] 39)).alloc (.cells #[.pointer (some ⟨cb, 0, none⟩)] 99)).alloc (.cells #[.int .i64 (row : Int)] 3) := ⟨_, rfl⟩
  obtain ⟨n0, hn0⟩ : ∃ n0, n0 = w.heap.size := ⟨_, rfl⟩
  have k1 : Kp no w w1 := by rw [hw1]; exact (((Kp.refl _ _).alloc _).alloc _).alloc _
  obtain ⟨v7, v9, v11⟩ : w1.cell? ⟨n0, 0, none⟩ = some (.pointer (some ⟨lb, 0, none⟩)) ∧ w1.cell? ⟨n0 + 1, 0, none⟩ = some (.pointer (some ⟨cb, 0, none⟩)) ∧ w1.cell? ⟨n0 + 1 + 1, 0, none⟩ = some (.int .i64 (row : Int)) := by
    rw [hw1, hn0]
    exact cells3d w _ _ _ _ _ _
  have HE1 : Hid (PassEnv w1 (n0 + 1) (n0 + 1 + 1) n0 cb lb sb S V row) := ⟨v9, v11, v7, k1.cell hsrc id, by obtain ⟨a, b, c, h1⟩ := hax; exact ⟨a, b, c, h1.kp k1 id id id id⟩, hsh.on k1⟩
  have HB1 : Hid (Boo (one g) w1) := fun b hb => by
    subst hb
    obtain ⟨t, ht⟩ := hg0
    exact ⟨t, k1.cell ht id⟩
  have hl1 := hl.on k1
  have HP1 : Hid (LinePut g off w w1) := LinePut.of_no k1 hl.lt
  obtain ⟨A, hA⟩ : ∃ A, A = colAx S V 0 0 0 := ⟨_, rfl⟩
  have okA : A.Ok := by rw [hA]; exact (colOk hS hV).ok 0 0 0 (lnK 26 80 V.fc V.sc (colSz S) 26)
  have hAn : A.n = 26 := by rw [hA]; rfl
  have hFE : A.bFi i ≤ A.bEn i ∧ A.bEn i ≤ 26 := by
    have q1 := (band_in okA (i := i)).1
    have q2 := okA.fz
    refine ⟨?_, by omega⟩
    unfold Ax.bFi Ax.bEn
    split <;> omega
  have HPass : Hid (∀ w', Kp (one g) w1 w' → ∀ col : Nat, col < 26 → Calls Try.prog 69 #[.int .i64 (col : Int), .pointer (some ⟨n0 + 1, 0, none⟩), .pointer (some ⟨n0 + 1 + 1, 0, none⟩), .pointer (some ⟨n0, 0, none⟩)] w' fun e w'' => e = .returned (.bool (passB S row col)) ∧ Kp no w' w'') :=
    fun w' k col hc => pass_at w' _ _ _ cb lb sb S V row col hS (HE1.out.boo k HB1.out) hr hc
  clear v7 v9 v11 hl hsh hsrc hax k1 hg0
  have HBC : Hid (∀ w', Kp (one g) w1 w' → w'.cell? ⟨cb, bo, none⟩ = some (.int .i64 (A.bFi i : Int)) ∧ w'.cell? ⟨cb, bo + 1, none⟩ = some (.int .i64 (A.bEn i : Int)) ∧ w'.cell? ⟨cb, bo + 2, none⟩ = some (.int .i64 (A.bLo i : Int)) ∧ w'.cell? ⟨cb, bo + 3, none⟩ = some (.int .i64 (A.bHi i : Int))) := fun w' k => by
    obtain ⟨a, b, c, h1⟩ := (HE1.out.boo k HB1.out).ax
    rw [hA]
    exact band_cells h1 hi hbo
  obtain ⟨z0, z1, -, -⟩ := HBC.out w1 (Kp.refl _ _)
  have HRA : Hid (rowAll S V i row x0 x1 L = rowK S V i row x0 x1 L (A.bEn i - A.bFi i)) := by show _ = _; rw [hA]; rfl
  have HRS : Hid (∀ k, rowK S V i row x0 x1 L (k + 1) = rowStep S V i row x0 x1 (rowK S V i row x0 x1 L k) (A.bFi i + k)) := fun k => by rw [hA]; rfl
  obtain ⟨hF1, hF2⟩ := hFE
  obtain ⟨fi, hfi⟩ : ∃ fi, A.bFi i = fi := ⟨_, rfl⟩
  obtain ⟨en, hen⟩ : ∃ en, A.bEn i = en := ⟨_, rfl⟩
  rw [hfi] at z0 hF1 HRS HRA
  rw [hen] at z1 hF1 hF2 HRA
  have HFE : Hid (A.bFi i = fi ∧ A.bEn i = en) := ⟨hfi, hen⟩
  have HBO : Hid (bo = 2 + i * 4) := hbo
  have HA : Hid (A = colAx S V 0 0 0) := hA
  have HAN : Hid (A.n = 26) := hAn
  clear hfi hen hbo hA hAn
  go_enter Try.func56, Try.ntmps56
  go_upto_region 1 with fail
  rw [← hn0, ← hw1]
  clear hn0 hw1
  go_wp2_with fail
  clear z0 z1
  go_loopw [15] (fun cv wr => ∃ c : Nat, fi ≤ c ∧ c ≤ en ∧ cv = .int .i64 (c : Int) ∧ LineAt wr g off (rowK S V i row x0 x1 L (c - fi)) ∧ LinePut g off w1 wr) (fun cv _ => en - (intOf cv).toNat)
  case atStart => exact ⟨fi, Nat.le_refl _, hF1, rfl, by rw [Nat.sub_self]; exact hl1, LinePut.refl _ _ _⟩
  case round =>
    clear hl1
    obtain ⟨c, hc1, hc2, rfl, hl, hp⟩ := hrel
    obtain ⟨z0, z1, z2, z3⟩ := HBC.out wr hp.kp
    rw [HFE.out.1] at z0
    rw [HFE.out.2] at z1
    by_cases hlt : c < en
    · have hc26 : c < 26 := by omega
      have HST : Hid (rowK S V i row x0 x1 L (c + 1 - fi) = rowStep S V i row x0 x1 (rowK S V i row x0 x1 L (c - fi)) c) := by
        show _ = _
        rw [show c + 1 - fi = (c - fi) + 1 by omega, HRS.out, show fi + (c - fi) = c by omega]
      go_wp2_with fail
      refine (HPass.out wr hp.kp c hc26).mono ?_
      rintro e w5 ⟨rfl, k5⟩
      have kg5 : Kp (one g) w1 w5 := hp.kp.trans (Kp.of_no k5)
      have hl5 := hl.on k5
      have hp5 : LinePut g off w1 w5 := hp.trans (LinePut.of_no k5 hl.lt)
      cases hpb : passB S row c with
      | true =>
        have HS2 : Hid (rowK S V i row x0 x1 L (c + 1 - fi) = rowK S V i row x0 x1 L (c - fi)) := by show _ = _; rw [HST.out]; unfold rowStep; rw [if_pos (Or.inl hpb)]
        clear hpb
        go_wp2_with fail
        go_roundw
        case rel => exact ⟨c + 1, by omega, by omega, by go_num, by rw [HS2.out]; exact hl5, hp5⟩
        case measure => simp [intOf]; omega
      | false =>
        have HPB : Hid (passB S row c = false) := hpb
        clear hpb
        have hE5 := HE1.out.boo kg5 HB1.out
        have e11 := hE5.c11
        have hle : n0 + 1 + 1 < w5.heap.size := cell_lt e11
        obtain ⟨w6, hw6⟩ : ∃ w6, w6 = w5.alloc (.cells #[.int .i64 (row : Int), .int .i64 (c : Int)] 31) := ⟨_, rfl⟩
        obtain ⟨ad, had⟩ : ∃ ad, ad = w5.heap.size := ⟨_, rfl⟩
        have k6 : Kp no w5 w6 := by rw [hw6]; exact (Kp.refl _ _).alloc _
        obtain ⟨y0, y1⟩ : w6.cell? ⟨ad, 0, none⟩ = some (.int .i64 (row : Int)) ∧ w6.cell? ⟨ad, 1, none⟩ = some (.int .i64 (c : Int)) := by
          subst hw6 had
          exact ⟨by simp, by simp⟩
        go_upto_region 7 with fail
        rw [← had, ← hw6]
        clear had hw6
        have hE6 := hE5.on k6
        have kg6 : Kp (one g) w1 w6 := kg5.trans (Kp.of_no k6)
        have hl6 := hl5.on k6
        have hp6 : LinePut g off w1 w6 := hp5.trans (LinePut.of_no k6 hl5.lt)
        have e7 := hE6.c7
        have e0 : w6.cell? ⟨lb, 0, none⟩ = some (.iface 38 (.pointer (some ⟨sb, 0, none⟩))) := hE6.src
        clear e11 hle k5 k6 hl5 hp5 hE5 kg5 hl hp z0 z1 z2 z3
        obtain ⟨o, ho⟩ : ∃ o, mergeAt S.mg row c = o := ⟨_, rfl⟩
        obtain ⟨AA, hAA⟩ : ∃ A, o.getD ⟨0, 0, 0, 0⟩ = A := ⟨_, rfl⟩
        obtain ⟨b, hb⟩ : ∃ b, o.isSome = b := ⟨_, rfl⟩
        have hm : ∀ w : World, (method 271 38 (.pointer (some ⟨sb, 0, none⟩)) "MergeAt").run Try.prog w = .ok (20, .pointer (some ⟨sb, 0, none⟩)) w := fun _ => by kernel_rfl
        have HCall : Hid (∀ w' : World, Kp no w6 w' → Calls Try.prog 20 #[.pointer (some ⟨sb, 0, none⟩), .agg #[.int .i64 (row : Int), .int .i64 (c : Int)]] w' fun e w'' => e = .returned (.tuple #[.agg #[.int .i64 (AA.t : Int), .int .i64 (AA.l : Int), .int .i64 (AA.b : Int), .int .i64 (AA.r : Int)], .bool b]) ∧ Kp no w' w'') :=
          fun w' k => mergeAt_v w' sb S (hE6.sh.on k) hS row c o ho AA hAA b hb
        have HMB : Hid ((mergeAt S.mg row c).isSome = b) := by show _ = _; rw [ho]; exact hb
        have lad : ad < w6.heap.size := cell_lt y0
        have lb7 : n0 < w6.heap.size := cell_lt e7
        have lbl : lb < w6.heap.size := cell_lt e0
        clear ho hAA hb
        go_cut [18] (fun s18 wx => s18 = .bool b ∧ Kp no w6 wx)
        case first =>
          go_region_with (go_at_call 20; refine (HCall.out _ (by first | exact (Kp.refl no _).drew | exact ((Kp.refl no _).alloc _).drew | exact (Kp.refl no _).drew.alloc _)).mono ?_; rintro e w5 ⟨rfl, kp5⟩; first | (have m8 := alloc4d kp5; obtain ⟨m0, m1, m2, m3, m4, m5, m6, m7⟩ := m8) | skip)
          all_goals go_wp2_with fail
          all_goals go_meet
          all_goals first
            | exact ⟨rfl, (VarAr.after AA kp5).kp⟩
            | exact ⟨rfl, (VarAr.before AA kp5).kp⟩
        case rest =>
          obtain ⟨rfl, k7⟩ := hcut
          obtain ⟨w7, rfl⟩ : ∃ w7, w7 = wc := ⟨_, rfl⟩
          clear HCall lad lb7 lbl
          cases b with
          | true =>
            have HS2 : Hid (rowK S V i row x0 x1 L (c + 1 - fi) = rowK S V i row x0 x1 L (c - fi)) := by show _ = _; rw [HST.out]; unfold rowStep; rw [if_pos (Or.inr HMB.out)]
            go_wp2_with fail
            go_roundw
            case rel => exact ⟨c + 1, by omega, by omega, by go_num, by rw [HS2.out]; exact hl6.on k7, hp6.trans (LinePut.of_no k7 hl6.lt)⟩
            case measure => simp [intOf]; omega
          | false =>
            have hE7 := hE6.on k7
            have f7 := hE7.c7
            have f0 : w7.cell? ⟨lb, 0, none⟩ = some (.iface 38 (.pointer (some ⟨sb, 0, none⟩))) := hE7.src
            have u0 := k7.cell y0 id
            have u1 := k7.cell y1 id
            have hmd : ∀ w : World, (method 271 38 (.pointer (some ⟨sb, 0, none⟩)) "Display").run Try.prog w = .ok (19, .pointer (some ⟨sb, 0, none⟩)) w := fun _ => by kernel_rfl
            have HSM : Hid ((shown S.es row c).text.size ≤ 65536 ∧ (shown S.es row c).al ≤ 3) := shown_small hS.es row c
            have HDisp : Hid (∀ w' : World, Kp no w7 w' → Calls Try.prog 19 #[.pointer (some ⟨sb, 0, none⟩), .agg #[.int .i64 (row : Int), .int .i64 (c : Int)]] w' fun e w'' => e = .returned (.agg #[.string (shown S.es row c).text, .bool (shown S.es row c).num, .int .i64 ((shown S.es row c).al : Int)]) ∧ Kp no w' w'') :=
              fun w' k => display_at w' sb S (hE7.sh.on k) hS row c hr hc26
            have lad : ad < w7.heap.size := cell_lt u0
            have lb7 : n0 < w7.heap.size := cell_lt f7
            have lbl : lb < w7.heap.size := cell_lt f0
            have HCT : Hid (cellT S V row c = placeT (shown S.es row c) (A.st c) (A.st c + (A.sz c : Int)) ∧ cellS S V row c = placeS (shown S.es row c) (A.st c) (A.st c + (A.sz c : Int))) := by rw [HA.out]; exact ⟨rfl, rfl⟩
            have hl7 := hl6.on k7
            have hp7 : LinePut g off w1 w7 := hp6.trans (LinePut.of_no k7 hl6.lt)
            clear y0 y1 e7 e0 k7 hl6 hp6 hE6 kg6
            generalize shown S.es row c = sn at *
            go_wp2_with fail
            go_cut [19] (fun s19 wx => ∃ b19, s19 = .pointer (some ⟨b19, 0, none⟩) ∧ Box3 w7 wx b19 (.string sn.text) (.bool sn.num) (.int .i64 (sn.al : Int)))
            case first =>
              go_region_with (go_at_call 19; refine (HDisp.out _ (by first | exact (Kp.refl no _).drew | exact ((Kp.refl no _).alloc _).drew | exact (Kp.refl no _).drew.alloc _)).mono ?_; rintro e w5 ⟨rfl, kp5⟩; first | (have m8 := alloc3d kp5; obtain ⟨m0, m1, m2, m3, m4, m5⟩ := m8) | skip)
              all_goals go_wp2_with fail
              all_goals go_meet
              all_goals first
                | exact ⟨_, rfl, Box3.after kp5⟩
                | exact ⟨_, rfl, Box3.before _ _ _ kp5⟩
            case rest =>
              obtain ⟨b19, rfl, hB⟩ := hcut
              obtain ⟨w8, rfl⟩ : ∃ w8, w8 = wc := ⟨_, rfl⟩
              have hE8 := hE7.on hB.kp
              have hl8 := hl7.on hB.kp
              have hp8 : LinePut g off w1 w8 := hp7.trans (LinePut.of_no hB.kp hl7.lt)
              have g9 := hE8.c9
              have t0 := hB.c0
              have t1 := hB.c1
              have t2 := hB.c2
              have ua := hB.kp.cell u0 id
              have ub := hB.kp.cell u1 id
              have kg8 := hp8.kp
              clear HDisp lad lb7 lbl f7 f0 u0 u1 hE7 hl7 hp7
              have stb := okA.st c
              have szb := okA.sz c
              have HSP : Hid (Calls Try.prog 49 #[.pointer (some ⟨cb, 0, none⟩), .int .i64 (c : Int), .int .i64 (c : Int), .pointer (some ⟨cb, bo, none⟩)] w8 fun e w' => e = .returned (.tuple #[.int .i64 (A.st c), .int .i64 (A.st c + (A.sz c : Int))]) ∧ Kp no w8 w') := by
                obtain ⟨a1, a2, a3, h1⟩ := hE8.ax
                have := span_own w8 cb _ h1 ((colOk hS hV).ok _ _ _ _) i bo hi HBO.out c (by show (colAx S V 0 0 0).bFi i ≤ c; rw [← HA.out, HFE.out.1]; exact hc1) (by show c < (colAx S V 0 0 0).bEn i; rw [← HA.out, HFE.out.2]; exact hlt)
                rw [HA.out]
                exact this
              have HPS := placeS_small sn (A.st c) (A.st c + (A.sz c : Int)) (by omega) (by omega) (by omega) HSM.out.1
              have HPT := placeT_small sn (A.st c) (A.st c + (A.sz c : Int)) (by omega) (by omega) HSM.out.1
              have HPL : Hid (∀ w', Calls Try.prog 58 #[.agg #[.string sn.text, .bool sn.num, .int .i64 (sn.al : Int)], .int .i64 (A.st c), .int .i64 (A.st c + (A.sz c : Int))] w' fun e w'' => e = .returned (.tuple #[.string (placeT sn (A.st c) (A.st c + (A.sz c : Int))), .int .i64 (placeS sn (A.st c) (A.st c + (A.sz c : Int)))]) ∧ Kp no w' w'') :=
                fun w' => place_at repOk w' sn (A.st c) (A.st c + (A.sz c : Int)) (by omega) (by omega) (by omega) HSM.out.1 HSM.out.2
              rw [← HCT.out.1, ← HCT.out.2] at HPL
              rw [← HCT.out.2] at HPS
              rw [← HCT.out.1] at HPT
              have HCL : Hid (cellL S V i row c = extL S V row fi (cellS S V row c) c (A.st c)) := by show _ = _; rw [← HFE.out.1, HA.out]; rfl
              have HCR : Hid (cellR S V i row c = extR S V row (cellS S V row c + ((cellT S V row c).size : Int)) (en - (c + 1)) (c + 1) (A.st c + (A.sz c : Int))) := by show _ = _; rw [← HFE.out.2, HA.out]; rfl
              have HFS : Hid (rowK S V i row x0 x1 L (c + 1 - fi) = drawOn (rowK S V i row x0 x1 L (c - fi)) row c (cellT S V row c) (cellS S V row c) (max (max (cellL S V i row c) (A.bLo i)) x0) (min (min (cellR S V i row c) (A.bHi i)) x1)) := by
                show _ = _
                rw [HST.out]; unfold rowStep
                rw [if_neg (by rw [HPB.out, HMB.out]; simp), HA.out]
              generalize cellT S V row c = ct at *
              generalize cellS S V row c = cs at *
              clear HCT
              go_wp2_with fail
              refine HSP.out.mono ?_
              rintro e w9 ⟨rfl, k9⟩
              have t0' := k9.cell t0 id
              have t1' := k9.cell t1 id
              have t2' := k9.cell t2 id
              go_wp2_with fail
              refine (HPL.out _).mono ?_
              rintro e w10 ⟨rfl, k10⟩
              have k810 : Kp no w8 w10 := k9.trans k10
              clear t0 t1 t2 t0' t1' t2' g9 HSP HPL hB
              have hl10 := hl8.on k810
              have hp10 : LinePut g off w1 w10 := hp8.trans (LinePut.of_no k810 hl8.lt)
              have va := k810.cell ua id
              have vb := k810.cell ub id
              clear ua ub k9 k10 hl8 hp8 kg8 hE8
              go_wp2_with fail
              clear k810
              go_loopw [20, 24] (fun lv nv wr2 => ∃ (j : Nat) (lf nn : Int), lv = .int .i64 lf ∧ nv = .int .i64 nn ∧ j ≤ c ∧ -10000 ≤ lf ∧ lf ≤ 10000 ∧ Hid (nn = (j : Int) - 1) ∧ Hid (extL S V row fi cs j lf = cellL S V i row c) ∧ Kp no w10 wr2) (fun _ nv _ => (intOf nv + 1).toNat)
              case atStart => exact ⟨c, A.st c, (c : Int) - 1, rfl, rfl, Nat.le_refl _, stb.1, stb.2, rfl, HCL.out.symm, Kp.refl _ _⟩
              case round =>
                obtain ⟨j, lf, nn, rfl, rfl, hj, hlf1, hlf2, HNN, HEL, kr⟩ := hrel
                have kgr : Kp (one g) w1 wr := hp10.kp.trans (Kp.of_no kr)
                have z0 := (HBC.out wr kgr).1
                rw [HFE.out.1] at z0
                have hnb : -1 ≤ nn ∧ nn < 26 := by have := HNN.out; omega
                obtain ⟨hnb1, hnb2⟩ := hnb
                go_upto_region 13 with fail
                go_cut [93] (fun s93 wx => s93 = .bool (decide (cs < lf ∧ fi + 1 ≤ j ∧ passB S row (j - 1) = true)) ∧ Kp no wr wx)
                case first =>
                  by_cases d1 : cs < lf
                  · have e1 : decide (cs < lf) = true := by simp [d1]
                    by_cases d2 : fi + 1 ≤ j
                    · have e2 : decide ((fi : Int) ≤ nn) = true := by have := HNN.out; simp; omega
                      have HPj : Hid (Calls Try.prog 69 #[.int .i64 nn, .pointer (some ⟨n0 + 1, 0, none⟩), .pointer (some ⟨n0 + 1 + 1, 0, none⟩), .pointer (some ⟨n0, 0, none⟩)] wr fun e w'' => e = .returned (.bool (passB S row (j - 1))) ∧ Kp no wr w'') := by
                        have := HPass.out wr kgr (j - 1) (by omega)
                        rw [show ((j - 1 : Nat) : Int) = nn by have := HNN.out; omega] at this
                        exact this
                      have HB0 : Hid (decide (cs < lf ∧ fi + 1 ≤ j ∧ passB S row (j - 1) = true) = passB S row (j - 1)) := by
                        show _ = _
                        cases passB S row (j - 1) <;> simp [d1, d2]
                      go_wp2_with fail
                      refine HPj.out.mono ?_
                      rintro e wz ⟨rfl, kz⟩
                      go_wp2_with fail
                      go_meet
                      exact ⟨by rw [HB0.out], kz⟩
                    · have e2 : decide ((fi : Int) ≤ nn) = false := by have := HNN.out; simp; omega
                      have HB0 : Hid (decide (cs < lf ∧ fi + 1 ≤ j ∧ passB S row (j - 1) = true) = false) := by show _ = _; simp [d2]
                      go_wp2_with fail
                      go_meet
                      exact ⟨by rw [HB0.out], Kp.refl _ _⟩
                  · have e1 : decide (cs < lf) = false := by simp; omega
                    have HB0 : Hid (decide (cs < lf ∧ fi + 1 ≤ j ∧ passB S row (j - 1) = true) = false) := by show _ = _; simp [d1]
                    go_wp2_with fail
                    go_meet
                    exact ⟨by rw [HB0.out], Kp.refl _ _⟩
                case rest =>
                  obtain ⟨rfl, kx⟩ := hcut
                  obtain ⟨w11, rfl⟩ : ∃ w11, w11 = wc := ⟨_, rfl⟩
                  have k11 : Kp no w10 w11 := kr.trans kx
                  have kg11 : Kp (one g) w1 w11 := hp10.kp.trans (Kp.of_no k11)
                  have hE11 := HE1.out.boo kg11 HB1.out
                  have x9 := hE11.c9
                  obtain ⟨a1, a2, a3, hax⟩ := hE11.ax
                  clear z0 kr kx kgr
                  by_cases hq : cs < lf ∧ fi + 1 ≤ j ∧ passB S row (j - 1) = true
                  · have hqd : decide (cs < lf ∧ fi + 1 ≤ j ∧ passB S row (j - 1) = true) = true := by simp only [hq, and_self, decide_true]
                    rw [hqd]
                    clear hqd
                    obtain ⟨nm, hnm⟩ : ∃ nm : Nat, nn = (nm : Int) := ⟨j - 1, by have := HNN.out; have := hq.2.1; omega⟩
                    have hjn : j = nm + 1 := by have := HNN.out; omega
                    have x1 : w11.cell? ⟨cb, 1, none⟩ = some (.slice (some ⟨a2, 0, none⟩) 26 26) := hax.c1
                    have x2 : w11.cell? ⟨a2, nm, none⟩ = some (.int .i64 (A.st nm)) := by rw [HA.out]; exact hax.ct nm (by show nm < 26; omega)
                    have hsb := okA.st nm
                    have i1 : nn < 26 := hnb2
                    have i0 : 0 ≤ nn := by omega
                    have hnt : nn.toNat = nm := by omega
                    rw [← hnt] at x2
                    have HEN : Hid (extL S V row fi cs nm (A.st nm) = cellL S V i row c) := by
                      show _ = _
                      rw [← HEL.out, hjn]
                      simp only [extL]
                      rw [if_pos ⟨hq.1, by have := hq.2.1; omega, by have := hq.2.2; rw [hjn] at this; simpa using this⟩, HA.out]
                    have HNM : Hid (nn = (nm : Int)) := hnm
                    have HJN : Hid (j = nm + 1) := hjn
                    rw [hnt] at x2
                    have x2' : w11.cell? ⟨a2, nn.toNat, none⟩ = some (.int .i64 (A.st nm)) := by rw [hnt]; exact x2
                    clear hq hnm hjn hnt x2
                    go_wp2_with fail
                    go_roundw
                    case rel => exact ⟨nm, A.st nm, nn - 1, rfl, by go_num, by have := HJN.out; omega, hsb.1, hsb.2, by show _ = _; rw [HNM.out], HEN.out, k11⟩
                    case measure => simp [intOf]; omega
                  · have hqd : decide (cs < lf ∧ fi + 1 ≤ j ∧ passB S row (j - 1) = true) = false := by simp only [hq, decide_false]
                    rw [hqd]
                    have HLF : Hid (cellL S V i row c = lf) := by show _ = _; rw [← HEL.out]; exact extL_stop hq
                    clear hq hqd
                    go_wp2_with fail
                    have hl11 := hl10.on k11
                    have hp11 : LinePut g off w1 w11 := hp10.trans (LinePut.of_no k11 hl10.lt)
                    have va' := k11.cell va id
                    have vb' := k11.cell vb id
                    obtain ⟨tot, htot⟩ : ∃ tot : Int, cs + (ct.size : Int) = tot := ⟨_, rfl⟩
                    rw [htot] at HCR
                    have HTOT : Hid (cs + (ct.size : Int) = tot) := htot
                    clear x9 hax hE11 hl10 hp10 va vb kg11 HEL k11
                    go_loopw [21, 25] (fun rv nv wr3 => ∃ (n k : Nat) (rt : Int), rv = .int .i64 rt ∧ nv = .int .i64 (n : Int) ∧ c + 1 ≤ n ∧ n + k = en ∧ -10000 ≤ rt ∧ rt ≤ 10080 ∧ Hid (extR S V row tot k n rt = cellR S V i row c) ∧ Kp no w11 wr3) (fun _ nv _ => en - (intOf nv).toNat)
                    case atStart => exact ⟨c + 1, en - (c + 1), A.st c + (A.sz c : Int), rfl, by go_num, Nat.le_refl _, by omega, by omega, by omega, HCR.out.symm, Kp.refl _ _⟩
                    case round =>
                      obtain ⟨n, k, rt, rfl, rfl, hn1, hnk, hrt1, hrt2, HER, kr⟩ := hrel
                      have kgr : Kp (one g) w1 wr := hp11.kp.trans (Kp.of_no kr)
                      have z1 := (HBC.out wr kgr).2.1
                      rw [HFE.out.2] at z1
                      go_upto_region 17 with fail
                      go_cut [123] (fun s93 wx => s93 = .bool (decide (rt < tot ∧ 0 < k ∧ passB S row n = true)) ∧ Kp no wr wx)
                      case first =>
                        by_cases d1 : rt < tot
                        · have e1 : decide (rt < tot) = true := by simp [d1]
                          by_cases d2 : n < en
                          · have HPj : Hid (Calls Try.prog 69 #[.int .i64 (n : Int), .pointer (some ⟨n0 + 1, 0, none⟩), .pointer (some ⟨n0 + 1 + 1, 0, none⟩), .pointer (some ⟨n0, 0, none⟩)] wr fun e w'' => e = .returned (.bool (passB S row n)) ∧ Kp no wr w'') := HPass.out wr kgr n (by omega)
                            have e2 : decide (n < en) = true := by simp [d2]
                            have HB0 : Hid (decide (rt < tot ∧ 0 < k ∧ passB S row n = true) = passB S row n) := by
                              show _ = _
                              have hk0 : 0 < k := by omega
                              cases passB S row n <;> simp [d1, hk0]
                            go_wp2_with fail
                            refine HPj.out.mono ?_
                            rintro e wz ⟨rfl, kz⟩
                            go_wp2_with fail
                            go_meet
                            exact ⟨by rw [HB0.out], kz⟩
                          · have e2 : decide (n < en) = false := by simp; omega
                            have HB0 : Hid (decide (rt < tot ∧ 0 < k ∧ passB S row n = true) = false) := by
                              show _ = _
                              have hk0 : ¬ 0 < k := by omega
                              simp [hk0]
                            go_wp2_with fail
                            go_meet
                            exact ⟨by rw [HB0.out], Kp.refl _ _⟩
                        · have e1 : decide (rt < tot) = false := by simp; omega
                          have HB0 : Hid (decide (rt < tot ∧ 0 < k ∧ passB S row n = true) = false) := by show _ = _; simp [d1]
                          go_wp2_with fail
                          go_meet
                          exact ⟨by rw [HB0.out], Kp.refl _ _⟩
                      case rest =>
                        obtain ⟨rfl, kx⟩ := hcut
                        obtain ⟨w12, rfl⟩ : ∃ w12, w12 = wc := ⟨_, rfl⟩
                        have k12 : Kp no w11 w12 := kr.trans kx
                        have kg12 : Kp (one g) w1 w12 := hp11.kp.trans (Kp.of_no k12)
                        have hE12 := HE1.out.boo kg12 HB1.out
                        obtain ⟨a1, a2, a3, hax⟩ := hE12.ax
                        clear z1 kr kx kgr
                        by_cases hq : rt < tot ∧ 0 < k ∧ passB S row n = true
                        · have hqd : decide (rt < tot ∧ 0 < k ∧ passB S row n = true) = true := by simp only [hq, and_self, decide_true]
                          rw [hqd]
                          clear hqd
                          obtain ⟨k', rfl⟩ : ∃ k', k = k' + 1 := ⟨k - 1, by omega⟩
                          have x9 := hE12.c9
                          have x0' : w12.cell? ⟨cb, 0, none⟩ = some (.slice (some ⟨a1, 0, none⟩) 26 26) := hax.c0
                          have x1' : w12.cell? ⟨cb, 1, none⟩ = some (.slice (some ⟨a2, 0, none⟩) 26 26) := hax.c1
                          have x2' : w12.cell? ⟨a2, n, none⟩ = some (.int .i64 (A.st n)) := by rw [HA.out]; exact hax.ct n (by show n < 26; omega)
                          have x3' : w12.cell? ⟨a1, n, none⟩ = some (.int .i64 (A.sz n : Int)) := by rw [HA.out]; exact hax.cz n (by show n < 26; omega)
                          have hsb := okA.st n
                          have hzb := okA.sz n
                          have i1 : (n : Int) < 26 := by omega
                          have HEN : Hid (extR S V row tot k' (n + 1) (A.st n + (A.sz n : Int)) = cellR S V i row c) := by
                            show _ = _
                            rw [← HER.out]
                            simp only [extR]
                            rw [if_pos ⟨hq.1, hq.2.2⟩, HA.out]
                          clear hq hax hE12
                          go_wp2_with fail
                          go_quiet (fail)
                          go_wp2_with fail
                          refine ⟨⟨n + 1, k', A.st n + (A.sz n : Int), rfl, by go_num, by omega, by omega, by omega, by omega, HEN, k12.drewN _⟩, by simp [intOf]; omega⟩
                        · have hqd : decide (rt < tot ∧ 0 < k ∧ passB S row n = true) = false := by simp only [hq, decide_false]
                          rw [hqd]
                          have HRT : Hid (cellR S V i row c = rt) := by show _ = _; rw [← HER.out]; exact extR_stop hq
                          clear hq hqd hax hE12
                          have hl12 := hl11.on k12
                          have hp12 : LinePut g off w1 w12 := hp11.trans (LinePut.of_no k12 hl11.lt)
                          have HB12 : Hid (Boo (one g) w12) := boo_line hl12 hp12 HB1.out
                          have ca := k12.cell va' id
                          have cbb := k12.cell vb' id
                          obtain ⟨-, -, z2, z3⟩ := HBC.out w12 kg12
                          have hadg : ad ≠ g := HB12.out.ne ca fun _ e => (by cases e)
                          have hcbg : cb ≠ g := by
                            obtain ⟨q1, q2, q3, hq⟩ := (HE1.out.boo kg12 HB1.out).ax
                            exact HB12.out.ne hq.c0 fun _ e => (by cases e)
                          have HBB := (band_in okA (i := i)).2
                          have HAM : A.m = 80 := by rw [HA.out]; rfl
                          rw [HLF.out, HRT.out] at HFS
                          generalize A.bLo i = bl at *
                          generalize A.bHi i = bh at *
                          obtain ⟨m1, hm1⟩ : ∃ m1, max lf (bl : Int) = m1 := ⟨_, rfl⟩
                          obtain ⟨m2, hm2⟩ : ∃ m2, max m1 (x0 : Int) = m2 := ⟨_, rfl⟩
                          obtain ⟨p1, hp1'⟩ : ∃ p1, min rt (bh : Int) = p1 := ⟨_, rfl⟩
                          obtain ⟨p2, hp2'⟩ : ∃ p2, min p1 (x1 : Int) = p2 := ⟨_, rfl⟩
                          rw [hm1, hm2, hp1', hp2'] at HFS
                          have f1 : (if lf < (bl : Int) then (bl : Int) else lf) = m1 := by rw [← hm1]; split <;> omega
                          have f2 : (if m1 < (x0 : Int) then (x0 : Int) else m1) = m2 := by rw [← hm2]; split <;> omega
                          have f3 : (if (bh : Int) < rt then (bh : Int) else rt) = p1 := by rw [← hp1']; split <;> omega
                          have f4 : (if (x1 : Int) < p1 then (x1 : Int) else p1) = p2 := by rw [← hp2']; split <;> omega
                          have hmx : ∀ W : World, (Builtin.max_ #[3, 3, 3] 3 #[.int .i64 lf, .int .i64 (bl : Int), .int .i64 (x0 : Int)]).run Try.prog W = .ok (.int .i64 m2) W := fun W => by
                            rw [run_max_int3, show (if (bl : Int) > lf then (bl : Int) else lf) = m1 from f1, show (if (x0 : Int) > m1 then (x0 : Int) else m1) = m2 from f2]
                          have hmn : ∀ W : World, (Builtin.min_ #[3, 3, 3] 3 #[.int .i64 rt, .int .i64 (bh : Int), .int .i64 (x1 : Int)]).run Try.prog W = .ok (.int .i64 p2) W := fun W => by
                            rw [Go.run_min_int3, f3, f4]
                          clear f1 f2 f3 f4
                          have HDR : Hid (∀ w', Kp no w12 w' → Calls Try.prog 59 #[.slice (some ⟨g, off, none⟩) 80 80, .agg #[.int .i64 (row : Int), .int .i64 (c : Int)], .string ct, .int .i64 cs, .int .i64 m2, .int .i64 p2] w' fun e w'' => e = .returned (.tuple #[]) ∧ LineAt w'' g off (rowK S V i row x0 x1 L (c + 1 - fi)) ∧ LinePut g off w' w'') := fun w' k => by
                            rw [HFS.out]
                            exact draw_at w' g off _ (hl12.on k) row c ct cs m2 p2 (by rw [← hm2]; omega) (by rw [← hp2']; omega) (by omega) (by omega) HPT
                          have hglt : g < w12.heap.size := hl12.lt
                          clear hm1 hm2 hp1' hp2' HAM HFS hl11 hp11 va' vb' kg12 k12
                          go_wp2_with fail
                          go_region_held3 (fun w' => w'.cell? ⟨ad, 0, none⟩ = some (.int .i64 (row : Int)) ∧ w'.cell? ⟨ad, 1, none⟩ = some (.int .i64 (c : Int)) ∧ w'.cell? ⟨cb, bo + 2, none⟩ = some (.int .i64 (bl : Int)) ∧ w'.cell? ⟨cb, bo + 3, none⟩ = some (.int .i64 (bh : Int)))
                            (refine ⟨?_, ?_, ?_, ?_⟩ <;> assumption)
                            (first | (go_at_call 59; refine (HDR.out _ (by first | exact (Kp.refl no _).drew | exact Kp.refl no _)).mono ?_; rintro e w13 ⟨rfl, hl13, hp13⟩; have t0 := hp13.kp.cell (p := ⟨ad, 0, none⟩) ca hadg; have t1 := hp13.kp.cell (p := ⟨ad, 1, none⟩) cbb hadg; have t2 := hp13.kp.cell (p := ⟨cb, bo + 2, none⟩) z2 hcbg; have t3 := hp13.kp.cell (p := ⟨cb, bo + 3, none⟩) z3 hcbg))
                          all_goals go_wp2_with fail
                          all_goals
                            refine ⟨⟨c + 1, by omega, by omega, by go_num, hl13, hp12.trans ((LinePut.of_no (Kp.refl _ _).drew hglt).trans hp13)⟩, by simp [intOf]; omega⟩
    · have hc' : en = c := by omega
      subst hc'
      have HF : Hid (LineAt wr g off (rowAll S V i row x0 x1 L)) := by rw [HRA.out]; exact hl
      go_wp2_with fail
      go_end0
      exact ⟨rfl, HF.out, HP1.out.trans hp⟩
end Go.Proofs.Qxb6500653a
