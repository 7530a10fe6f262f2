/-
  Sheet.Step (30): a text.
-/
import Derived.Test.Qxb6500653aStepA
import Derived.Test.Qxb6500653aMapSet
import Derived.Test.Qxb6500653aRects
namespace Go.Proofs.Qxb6500653a
open Go.RowKit Go.ChangeMaps

theorem ba_ne {a b : ByteArray} (h : a ≠ b) : (a != b) = true := by
  obtain ⟨a⟩ := a
  obtain ⟨b⟩ := b
  show (!(a == b)) = true
  have : a ≠ b := fun e => h (by rw [e])
  simp [this]
theorem bits_small (n : Nat) (h : n ≤ 3) : IntKind.i64.wrap (n : Int) = (n : Int) := by
  have : n = 0 ∨ n = 1 ∨ n = 2 ∨ n = 3 := by omega
  rcases this with rfl | rfl | rfl | rfl <;> decide
theorem bits_and3 (x : Int) : ∃ n : Nat, n ≤ 3 ∧ bits .and .i64 x 3 = (n : Int) := by
  refine ⟨(BitVec.ofInt 64 x &&& BitVec.ofInt 64 3).toNat, ?_, ?_⟩
  · rw [BitVec.toNat_and]
    exact Nat.and_le_right
  · refine bits_small _ ?_
    rw [BitVec.toNat_and]
    exact Nat.and_le_right

/-- behind the delete and the store -/
theorem show_born {w w' : World} {S : Sh} {es' : List MapEntry} {clock : Nat} (hm : w.heap[S.pb]? = some (.map S.es.toArray clock)) (hs : es'.Sublist S.es) (S' : Sh) (e1 : S'.pb = S.pb) (e2 : S'.es = es') (hb' : w'.heap[S.pb]? = some (.map es'.toArray clock)) (h : Born w S) : Born w' S' := by
  obtain ⟨c, hc, h1, h2⟩ := h
  rw [hm] at hc
  cases hc
  exact ⟨clock, by rw [e1, e2]; exact hb', by rw [e2]; exact fun x hx => h1 x (hs.subset hx), by rw [e2]; exact h2.sublist (hs.map _)⟩
theorem put_born {w w' : World} {S : Sh} {es' : List MapEntry} {clock : Nat} {k v : Value} (hm : w.heap[S.pb]? = some (.map S.es.toArray clock)) (hs : es'.Sublist S.es) (S' : Sh) (e1 : S'.pb = S.pb) (e2 : S'.es = es' ++ [{ key := k, val := v, born := clock : MapEntry }]) (hb' : w'.heap[S.pb]? = some (.map (es' ++ [{ key := k, val := v, born := clock : MapEntry }]).toArray (clock + 1))) (h : Born w S) : Born w' S' := by
  obtain ⟨c, hc, h1, h2⟩ := h
  rw [hm] at hc
  cases hc
  refine ⟨clock + 1, by rw [e1, e2]; exact hb', ?_, ?_⟩
  · rw [e2]
    intro x hx
    rcases List.mem_append.1 hx with hx | hx
    · have := h1 x (hs.subset hx); omega
    · simp only [List.mem_singleton] at hx
      subst hx
      exact Nat.lt_succ_self _
  · rw [e2, List.map_append]
    refine List.nodup_append.2 ⟨h2.sublist (hs.map _), by simp, ?_⟩
    intro a ha b hb
    obtain ⟨x, hx, rfl⟩ := List.mem_map.1 ha
    simp only [List.map_cons, List.map_nil, List.mem_singleton] at hb
    subst hb
    have := h1 x (hs.subset hx); omega

set_option maxRecDepth 100000 in
set_option maxHeartbeats 2000000 in
theorem step_show (w : World) (sb : Nat) (S : Sh) (h : SheetAt w sb S) (hS : S.Ok) (hst : S.steps < 1000000) (a b c d : Int) (tx : ByteArray) (htx : tx.size ≤ 65536) :
    Calls Try.prog 30 #[.pointer (some ⟨sb, 0, none⟩), .agg #[.int .i64 0, .int .i64 a, .int .i64 b, .int .i64 c, .int .i64 d, .string tx]] w (StepPost sb S 0 w) := by
  obtain ⟨w2, hw2⟩ : ∃ w2, w2 = (w.alloc (.cells #[.int .i64 0, .int .i64 a, .int .i64 b, .int .i64 c, .int .i64 d, .string tx] 28)).alloc (.cells #[.int .i64 a, .int .i64 b] 31) := ⟨_, rfl⟩
  have hP : Pre w (w2.setCell ⟨sb, 182, none⟩ (.int .u64 ((S.steps : Int) + 1))) sb S w.heap.size ⟨0, a, b, c, d, tx⟩ := Pre.of h ⟨0, a, b, c, d, tx⟩ w2 hw2
  have HOK : Hid (S.tick.Ok) := Sh.tick_ok hS hst
  have hS2 : SheetAt w2 sb S := h.on (by rw [hw2]; exact ((Kp.refl no w).alloc _).alloc _)
  have d0 := hS2.st
  have d1 := hS2.free 182
  have hsl := h.lt
  obtain ⟨clock, hmap⟩ := h.map
  have HMAP : Hid (w.heap[S.pb]? = some (.map S.es.toArray clock)) := hmap
  have HI : Hid (∀ w', Calls Try.prog 27 #[.agg #[.int .i64 a, .int .i64 b]] w' fun e w'' => e = .returned (.bool (inS a b)) ∧ Kp no w' w'') := fun w' => inSheetM_at w' a b
  clear hmap
  cases h1 : inS a b with
  | false =>
    rw [h1] at HI
    clear h1
    go_enter Try.func30, Try.ntmps30
    go_upto_region 2 with fail
    rw [← hw2]
    clear hw2
    go_upto_region 3 with fail
    generalize w2.setCell ⟨sb, 182, none⟩ (.int .u64 ((S.steps : Int) + 1)) = w3 at hP ⊢
    generalize w.heap.size = n0 at hP hsl ⊢
    have r0 := hP.o0
    have r1 := hP.o1
    have r2 := hP.o2
    clear d0 d1 hS2
    have r3 := hP.a0
    have r4 := hP.a1
    go_wp2_with fail
    refine (HI.out _).mono ?_
    rintro e w4 ⟨rfl, k4⟩
    go_wp2_with fail
    go_ret2
    exact ⟨1, S.tick, rfl, (hP.kp.trans (Kp.of_no k4)).sh, hP.sh.on k4, HOK.out, rfl, rfl, fun h => absurd h (by decide), Born.one h (hP.kp.trans (Kp.of_no k4)) _ rfl rfl⟩
  | true =>
    obtain ⟨rn, cn, rfl, rfl, hr, hc⟩ := inS_nat h1
    rw [h1] at HI
    clear h1
    obtain ⟨o, ho⟩ : ∃ o, mergeAt S.mg rn cn = o := ⟨_, rfl⟩
    obtain ⟨A, hA⟩ : ∃ A, o.getD ⟨0, 0, 0, 0⟩ = A := ⟨_, rfl⟩
    obtain ⟨bb, hb⟩ : ∃ b, o.isSome = b := ⟨_, rfl⟩
    go_enter Try.func30, Try.ntmps30
    go_upto_region 2 with fail
    rw [← hw2]
    clear hw2
    go_upto_region 3 with fail
    generalize w2.setCell ⟨sb, 182, none⟩ (.int .u64 ((S.steps : Int) + 1)) = w3 at hP ⊢
    generalize w.heap.size = n0 at hP hsl ⊢
    have r0 := hP.o0
    have r1 := hP.o1
    have r2 := hP.o2
    clear d0 d1 hS2
    have HM : Hid (∀ w', Kp no w3 w' → Calls Try.prog 20 #[.pointer (some ⟨sb, 0, none⟩), .agg #[.int .i64 (rn : Int), .int .i64 (cn : Int)]] w' fun e w'' => e = .returned (.tuple #[.agg #[.int .i64 (A.t : Int), .int .i64 (A.l : Int), .int .i64 (A.b : Int), .int .i64 (A.r : Int)], .bool bb]) ∧ Kp no w' w'') :=
      fun w' k => mergeAt_v w' sb S.tick (hP.sh.on k) HOK.out rn cn o ho A hA bb hb
    clear ho hA hb
    have r3 := hP.a0
    have r4 := hP.a1
    go_wp2_with fail
    refine (HI.out _).mono ?_
    rintro e w4 ⟨rfl, k4⟩
    have s0 := k4.cell r0 id
    have s3 := k4.cell r3 id
    have s4 := k4.cell r4 id
    go_wp2_with fail
    refine (HM.out _ k4).mono ?_
    rintro e w5 ⟨rfl, k5⟩
    have u3 := k5.cell s3 id
    have u4 := k5.cell s4 id
    obtain ⟨w6, hw6⟩ : ∃ w6, w6 = w5.alloc (.cells #[.int .i64 (A.t : Int), .int .i64 (A.l : Int), .int .i64 (A.b : Int), .int .i64 (A.r : Int)] 56) := ⟨_, rfl⟩
    have k36 : Kp no w3 w6 := by rw [hw6]; exact (k4.trans k5).alloc _
    have v0 := k36.cell hP.o0 id
    have v3 := k36.cell hP.o3 id
    have v5 := k36.cell hP.o5 id
    have v6 := k36.cell hP.a0 id
    have v7 := k36.cell hP.a1 id
    have HS6 : Hid (SheetAt w6 sb S.tick) := hP.sh.on k36
    have HK6 : Hid (Kp (one sb) w w6) := hP.kp.trans (Kp.of_no k36)
    have hneq : ∀ W : World, (binOp .neq 31 (.agg #[.int .i64 (A.t : Int), .int .i64 (A.l : Int)]) (.agg #[.int .i64 (rn : Int), .int .i64 (cn : Int)])).run Try.prog W = .ok (.bool (!(((A.t : Int) == (rn : Int)) && ((A.l : Int) == (cn : Int))))) W := fun W => neq31 _ _ _ _ W
    obtain ⟨bo, hbo⟩ : ∃ bo : Bool, (!(((A.t : Int) == (rn : Int)) && ((A.l : Int) == (cn : Int)))) = bo := ⟨_, rfl⟩
    rw [hbo] at hneq
    obtain ⟨b7, hb7⟩ : ∃ b7, b7 = w5.heap.size := ⟨_, rfl⟩
    have x0 : w6.cell? ⟨b7, 0, none⟩ = some (.int .i64 (A.t : Int)) := by rw [hw6, hb7]; simp
    have x1 : w6.cell? ⟨b7, 1, none⟩ = some (.int .i64 (A.l : Int)) := by rw [hw6, hb7]; simp
    clear hbo s0 s3 s4 u3 u4 HI HM r0 r1 r2 r3 r4
    go_upto_region 9 with fail
    rw [← hb7, ← hw6]
    clear hb7 hw6 k4 k5 k36
    go_cut [52] (fun s52 wx => s52 = .bool (bb && bo) ∧ wx = w6)
    case first =>
      cases bb with
      | true =>
        go_wp2_with fail
        go_meet
        exact ⟨rfl, rfl⟩
      | false =>
        go_wp2_with fail
        go_meet
        exact ⟨rfl, rfl⟩
    case rest =>
      obtain ⟨rfl, hww⟩ := hcut
      obtain rfl := hww.symm
      obtain ⟨b2, hb2⟩ : ∃ b2, (bb && bo) = b2 := ⟨_, rfl⟩
      rw [hb2]
      clear hb2 hneq x0 x1
      cases b2 with
      | true =>
        go_wp2_with fail
        go_ret2
        exact ⟨3, S.tick, rfl, HK6.out.sh, HS6.out, HOK.out, rfl, rfl, fun h => absurd h (by decide), Born.one h HK6.out _ rfl rfl⟩
      | false =>
        obtain ⟨es', hsub, hno, hdel⟩ := run_drop HOK.out.es hr hc
        have HNO : Hid (∀ e ∈ es', e.key ≠ addrV rn cn) := hno
        have HSUB : Hid (es'.Sublist S.es) := hsub
        have hpl : S.pb < w6.heap.size := HS6.out.pb_lt
        have HM6 : Hid (w6.heap[S.pb]? = some (.map S.es.toArray clock)) := (HK6.out.block _ h.pb_lt h.pb_ne).trans HMAP.out
        have hd0 := hdel w6 S.pb clock 0 HM6.out
        have hd1 := hdel w6.drew S.pb clock 0 HM6.out
        have m0 := HS6.out.mp
        have m1 : w6.cell? ⟨sb, 181, none⟩ = some (.map (some S.pb)) := m0
        have hne : sb ≠ n0 := by omega
        clear hdel hno hsub m0
        unfold addrV at hd0 hd1
        go_wp2_with fail
        go_region
        have HS7 : Hid (SheetAt (setBlock w6.drew S.pb (.map es'.toArray clock)) sb { S.tick with es := es' }) := (HS6.out.on (Kp.refl no w6).drew).setMap es' clock
        have HK7 : Hid (Kp (shX sb S) w (setBlock w6.drew S.pb (.map es'.toArray clock))) := HK6.out.drew.sh.setB (fun _ => Or.inr (Or.inl rfl)) _
        have HM7 : Hid ((setBlock w6.drew S.pb (.map es'.toArray clock)).heap[S.pb]? = some (.map es'.toArray clock)) := setBlock_get hpl _
        have k67 : Kp (one S.pb) w6 (setBlock w6.drew S.pb (.map es'.toArray clock)) := (Kp.refl (one S.pb) w6).drew.setB (fun _ => rfl) _
        generalize setBlock w6.drew S.pb (.map es'.toArray clock) = w7 at HS7 HK7 HM7 k67 ⊢
        have far : ∀ {g i : Nat} {v : Value}, w6.cell? ⟨g, i, none⟩ = some v → w7.cell? ⟨g, i, none⟩ = some v := fun {g i v} hv => k67.cell hv (fun e => by
          have e' : g = S.pb := e
          subst e'
          have := HM6.out
          simp [World.cell?, this] at hv)
        have y0 := far v0
        have y3 := far v3
        have y5 := far v5
        have y6 := far v6
        have y7 := far v7
        have y8 := far m1
        have HO7 : Hid (Sh.Ok { S.tick with es := es' }) := by
          have h0 := HOK.out
          exact ⟨h0.wd, h0.ht, h0.few, h0.each, h0.apart, h0.es.sub HSUB.out, h0.steps⟩
        clear v0 v3 v5 v6 v7 m1 hd0 hd1 hpl k67 far
        cases hz : tx.toList.isEmpty with
        | true =>
          have hz2 : (!tx.toList.isEmpty) = false := by rw [hz]; rfl
          go_wp2_with fail
          go_ret2
          exact ⟨0, _, rfl, HK7.out, HS7.out, HO7.out, rfl, rfl, fun h => absurd h (by decide), show_born HMAP.out HSUB.out _ rfl rfl HM7.out⟩
        | false =>
          have hz2 : (!tx.toList.isEmpty) = true := by rw [hz]; rfl
          have HT : Hid (tx.size ≤ 65536) := htx
          have hp0 : ∀ v : Value, (Instr.mapUpdate 86 (.map (some S.pb)) (.agg #[.int .i64 (rn : Int), .int .i64 (cn : Int)]) v).run Try.prog w7 = .ok () (setBlock w7 S.pb (.map (es' ++ [{ key := addrV rn cn, val := v, born := clock : MapEntry }]).toArray (clock + 1))) := fun v => run_put HO7.out.es hr hc HNO.out v w7 S.pb clock HM7.out
          have hp1 : ∀ v : Value, (Instr.mapUpdate 86 (.map (some S.pb)) (.agg #[.int .i64 (rn : Int), .int .i64 (cn : Int)]) v).run Try.prog w7.drew = .ok () (setBlock w7.drew S.pb (.map (es' ++ [{ key := addrV rn cn, val := v, born := clock : MapEntry }]).toArray (clock + 1))) := fun v => run_put HO7.out.es hr hc HNO.out v w7.drew S.pb clock HM7.out
          clear htx
          go_wp2_with fail
          go_region
          all_goals go_wp2_with fail
          obtain ⟨al, hal, e3⟩ := bits_and3 (c / 2)
          rw [e3]
          have HS8 := (HS7.out.on (Kp.refl no w7).drew).setMap (es' ++ [{ key := addrV rn cn, val := (Shn.v ⟨tx, bits .and .i64 c 1 == 1, al⟩), born := clock : MapEntry }]) (clock + 1)
          have HK8 : Kp (shX sb S) w (setBlock w7.drew S.pb (.map (es' ++ [{ key := addrV rn cn, val := (Shn.v ⟨tx, bits .and .i64 c 1 == 1, al⟩), born := clock : MapEntry }]).toArray (clock + 1))) := HK7.out.drew.setB (fun _ => Or.inr (Or.inl rfl)) _
          have HO8 : Sh.Ok { S.tick with es := es' ++ [{ key := addrV rn cn, val := (Shn.v ⟨tx, bits .and .i64 c 1 == 1, al⟩), born := clock : MapEntry }] } := by
            have h0 := HO7.out
            exact ⟨h0.wd, h0.ht, h0.few, h0.each, h0.apart, h0.es.push hr hc HT.out hal HNO.out clock, h0.steps⟩
          have HM8 := setBlock_get (w := w7.drew) (b := S.pb) (HS7.out.pb_lt) (.map (es' ++ [{ key := addrV rn cn, val := (Shn.v ⟨tx, bits .and .i64 c 1 == 1, al⟩), born := clock : MapEntry }]).toArray (clock + 1))
          go_ret2
          exact ⟨0, _, rfl, HK8, HS8, HO8, rfl, rfl, fun h => absurd h (by decide), put_born HMAP.out HSUB.out _ rfl rfl HM8⟩
end Go.Proofs.Qxb6500653a
