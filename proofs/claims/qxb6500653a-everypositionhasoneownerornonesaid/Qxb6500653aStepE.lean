/-
  Sheet.Step (30): a merge.
-/
import Derived.Test.Qxb6500653aStepD
import Derived.Test.Qxb6500653aPanes
import Derived.Test.Qxb6500653aPlayB
namespace Go.Proofs.Qxb6500653a
open Go.RowKit Go.ChangeMaps

theorem get_lt {w : World} {b : Nat} {o : Obj} (h : w.heap[b]? = some o) : b < w.heap.size := (Array.getElem?_eq_some_iff.1 h).1
/-- a walk over the map under way: of es the entries es1 are there -/
structure Rg (w8 wr : World) (pb rb clock : Nat) (es es1 : List MapEntry) (seen : Array Nat) : Prop where
  sub : es1.Sublist es
  map : wr.heap[pb]? = some (.map es1.toArray clock)
  it : wr.heap[rb]? = some (.mapIter (some pb) clock seen clock)
  kp : Kp (fun k => k = pb ∨ k = rb) w8 wr
section
variable {w8 wr : World} {pb rb clock : Nat} {es es1 : List MapEntry} {seen : Array Nat}
theorem Rg.ne (h : Rg w8 wr pb rb clock es es1 seen) : rb ≠ pb := fun e => by
  have := h.it
  rw [e, h.map] at this
  cases this
theorem Rg.left (h : Rg w8 wr pb rb clock es es1 seen) : wr.rangeLeft pb rb = (leftOf es1.toArray seen).size := by simp only [World.rangeLeft, h.map, h.it]
theorem Rg.on {w' : World} (h : Rg w8 wr pb rb clock es es1 seen) (k : Kp no wr w') : Rg w8 w' pb rb clock es es1 seen :=
  ⟨h.sub, (k.block _ (get_lt h.map) id).trans h.map, (k.block _ (get_lt h.it) id).trans h.it, h.kp.trans (Kp.of_no k)⟩
theorem Rg.turn {w1 : World} (h : Rg w8 wr pb rb clock es es1 seen) (hw : w1 = wr ∨ w1 = wr.drew) (seen' : Array Nat) : Rg w8 (setBlock w1 rb (.mapIter (some pb) clock seen' clock)) pb rb clock es es1 seen' := by
  have hm : w1.heap[pb]? = some (.map es1.toArray clock) := by rcases hw with rfl | rfl <;> exact h.map
  have hi : w1.heap[rb]? = some (.mapIter (some pb) clock seen clock) := by rcases hw with rfl | rfl <;> exact h.it
  have hk : Kp (fun k => k = pb ∨ k = rb) w8 w1 := by
    rcases hw with rfl | rfl
    · exact h.kp
    · exact h.kp.drew
  refine ⟨h.sub, ?_, setBlock_get (get_lt hi) _, hk.setB (fun _ => Or.inr rfl) _⟩
  show (w1.heap.setIfInBounds rb _)[pb]? = _
  rw [Array.getElem?_setIfInBounds_ne h.ne]
  exact hm
theorem Rg.drop {w1 : World} {es2 : List MapEntry} (h : Rg w8 wr pb rb clock es es1 seen) (hw : w1 = wr ∨ w1 = wr.drew) (hs : es2.Sublist es1) : Rg w8 (setBlock w1 pb (.map es2.toArray clock)) pb rb clock es es2 seen := by
  have hm : w1.heap[pb]? = some (.map es1.toArray clock) := by rcases hw with rfl | rfl <;> exact h.map
  have hi : w1.heap[rb]? = some (.mapIter (some pb) clock seen clock) := by rcases hw with rfl | rfl <;> exact h.it
  have hk : Kp (fun k => k = pb ∨ k = rb) w8 w1 := by
    rcases hw with rfl | rfl
    · exact h.kp
    · exact h.kp.drew
  refine ⟨hs.trans h.sub, setBlock_get (get_lt hm) _, ?_, hk.setB (fun _ => Or.inl rfl) _⟩
  show (w1.heap.setIfInBounds pb _)[rb]? = _
  rw [Array.getElem?_setIfInBounds_ne (Ne.symm h.ne)]
  exact hi
/-- what is no map and no iterator is kept -/
theorem Rg.cell (h : Rg w8 wr pb rb clock es es1 seen) (hp : ∃ e c, w8.heap[pb]? = some (.map e c)) (hr : ∃ m s q c, w8.heap[rb]? = some (.mapIter m s q c)) {g i : Nat} {v : Value} (hv : w8.cell? ⟨g, i, none⟩ = some v) : wr.cell? ⟨g, i, none⟩ = some v := by
  refine h.kp.cell hv ?_
  rintro (e | e)
  · have e' : g = pb := e
    obtain ⟨x, c, hx⟩ := hp
    rw [← e'] at hx
    simp [World.cell?, hx] at hv
  · have e' : g = rb := e
    obtain ⟨x, c, q, s, hx⟩ := hr
    rw [← e'] at hx
    simp [World.cell?, hx] at hv
theorem left_sub {es2 : List MapEntry} (hs : es2.Sublist es1) (seen : Array Nat) : (leftOf es2.toArray seen).size ≤ (leftOf es1.toArray seen).size := by
  have e : ∀ l : List MapEntry, (leftOf l.toArray seen).size = (l.filter (fun e => !seen.contains e.born)).length := fun l => by
    rw [← Array.length_toList]
    unfold leftOf
    rw [Array.toList_filter]
  rw [e, e]
  exact (hs.filter _).length_le
theorem leftOf_mem {e : MapEntry} (he : e ∈ (leftOf es1.toArray seen).toList) : e ∈ es1 := by
  unfold leftOf at he
  simp at he
  exact he.1
theorem SheetAt.ranged {sb : Nat} {S : Sh} (h : SheetAt w8 sb S) (hr : Rg w8 wr S.pb rb clock S.es es1 seen) (hi : ∃ m s q c, w8.heap[rb]? = some (.mapIter m s q c)) : SheetAt wr sb { S with es := es1 } := by
  have hp : ∃ e c, w8.heap[S.pb]? = some (.map e c) := by
    obtain ⟨c, hc⟩ := h.map
    exact ⟨_, _, hc⟩
  have n1 : sb ≠ rb := fun e => by
    obtain ⟨m, s, q, c, hx⟩ := hi
    have := h.mg
    rw [← e] at hx
    simp [World.cell?, hx] at this
  have hX : ¬ (fun k => k = S.pb ∨ k = rb) sb := fun e => e.elim (fun e => h.pb_ne (Eq.symm e)) n1
  refine ⟨fun c hc => hr.cell hp hi (h.wd c hc), fun c hc => hr.cell hp hi (h.ht c hc), fun c hc => hr.cell hp hi (h.hr c hc), fun c hc => hr.cell hp hi (h.hc c hc), hr.cell hp hi h.mg, ?_, hr.cell hp hi h.mp, ⟨_, hr.map⟩, hr.cell hp hi h.st, fun o => (hr.kp.frozen (p := ⟨sb, o, none⟩) h.lt hX).trans (h.free o), h.mnil⟩
  obtain ⟨hl, hm⟩ := h.mrow
  refine ⟨hl, hm.imp id ?_⟩
  rintro ⟨g, cap, cur, e1, e2, e3, e4⟩
  have hg : S.mv.ownBlock = some g := by
    have e1' : S.mv = _ := e1
    rw [e1']; rfl
  obtain ⟨i, hgi⟩ := h.head hg
  refine ⟨g, cap, cur, e1, e2, ?_, e4⟩
  rw [hr.kp.block g (cell_lt hgi) ?_]
  · exact e3
  · rintro (e | e)
    · obtain ⟨x, c, hx⟩ := hp
      rw [← e] at hx
      simp [World.cell?, hx] at hgi
    · obtain ⟨x, c, q, s, hx⟩ := hi
      rw [← e] at hx
      simp [World.cell?, hx] at hgi
end
/-- the list of merges, longer by one -/
theorem SheetAt.setMg2 {w w' : World} {sb : Nat} {S : Sh} (h : SheetAt w sb S) (k : w.grownBy w' S.mv.ownBlock) (v : Value) (L : List Ar) (ho : w'.ownsRow (sb + 1) 56 4 v L.length (flatA L)) (hn : L ≠ []) : SheetAt (w'.setCell ⟨sb, 180, none⟩ v) sb { S with mg := L, mv := v } := by
  have hb : ∀ b, some b ≠ S.mv.ownBlock → b < w.heap.size → w'.heap[b]? = w.heap[b]? := fun b hb hl => k.block b hl hb
  have nsb : some sb ≠ S.mv.ownBlock := fun e => h.mb_ne e.symm rfl
  have npb : some S.pb ≠ S.mv.ownBlock := fun e => by
    obtain ⟨i, hi⟩ := h.head e.symm
    obtain ⟨c, hc⟩ := h.map
    simp [World.cell?, hc] at hi
  have es : ∀ o, w'.cell? ⟨sb, o, none⟩ = w.cell? ⟨sb, o, none⟩ := fun o => World.cell?_of_block (w := w) (hb sb nsb h.lt)
  have cc : ∀ {o : Nat} {u : Value}, w.cell? ⟨sb, o, none⟩ = some u → w'.cell? ⟨sb, o, none⟩ = some u := fun {o u} hu => (es o).trans hu
  have k2 : Kp (one sb) w' (w'.setCell ⟨sb, 180, none⟩ v) := Kp.set _ _ rfl
  refine ⟨fun c hc => keepc (by omega) (cc (h.wd c hc)), fun c hc => keepc (by omega) (cc (h.ht c hc)), fun c hc => keepc (by omega) (cc (h.hr c hc)), fun c hc => keepc (by omega) (cc (h.hc c hc)), cset_eq _ _ _ _ (cc h.mg), ?_, keepc (by decide) (cc h.mp), ?_, keepc (by decide) (cc h.st), fun j => ?_, fun e => absurd e hn⟩
  · exact ho.kept k2.grown (by
      cases hb : v.ownBlock with
      | none => exact Or.inl rfl
      | some b => exact Or.inr fun e => by have := (ho.lt b hb).1; have e' := Option.some.inj e; omega)
  · obtain ⟨c, hc⟩ := h.map
    refine ⟨c, (k2.block _ (Nat.lt_of_lt_of_le h.pb_lt k.size) h.pb_ne).trans ((hb _ npb h.pb_lt).trans hc)⟩
  · rw [World.frozen?_setCell]
    exact (World.frozen?_of_block (w := w) (a := ⟨sb, j, none⟩) (hb sb nsb h.lt)).trans (h.free j)
theorem owns_shape {w : World} {base e size n : Nat} {v : Value} {xs : List Value} (h : w.ownsRow base e size v n xs) : ∃ p1 p2 p3, v = .slice p1 p2 p3 := by
  rcases h.2 with ⟨e, _⟩ | ⟨g', cap', cur, e, _⟩
  · exact ⟨_, _, _, e⟩
  · exact ⟨_, _, _, e⟩
/-- the merges stand as a slice of some place -/
theorem SheetAt.mvs {w : World} {sb : Nat} {S : Sh} (h : SheetAt w sb S) : ∃ p cap, S.mv = .slice p S.mg.length cap ∧ (S.mg ≠ [] → ∃ g, p = some ⟨g, 0, none⟩ ∧ ∀ (k : Nat) (a : Ar), S.mg[k]? = some a → w.cell? ⟨g, k * 4, none⟩ = some (.int .i64 (a.t : Int)) ∧ w.cell? ⟨g, k * 4 + 1, none⟩ = some (.int .i64 (a.l : Int)) ∧ w.cell? ⟨g, k * 4 + 2, none⟩ = some (.int .i64 (a.b : Int)) ∧ w.cell? ⟨g, k * 4 + 3, none⟩ = some (.int .i64 (a.r : Int))) := by
  by_cases h0 : S.mg = []
  · refine ⟨none, 0, by rw [h.mnil h0, h0]; rfl, fun e => absurd h0 e⟩
  · obtain ⟨g, cap, e, hc⟩ := h.cons h0
    exact ⟨_, cap, e, fun _ => ⟨g, rfl, hc⟩⟩
theorem Kp.of_grownBy {w w' : World} {row : Option Nat} (h : w.grownBy w' row) : Kp (fun k => row = some k) w w' :=
  ⟨h.os, h.tape, h.output, h.size, fun k hk hx => h.block k hk (fun e => hx e.symm)⟩
/-- behind the walk over the map and the append: the sheet -/
theorem merge_end {w w8 wr wA w11 : World} {sb rb clock : Nat} {S : Sh} {es1 : List MapEntry} {seen : Array Nat} {A : Ar} {v' : Value} (hok : S.tick.Ok)
    (hbn : w.heap[S.pb]? = some (.map S.es.toArray clock)) (hs8 : SheetAt w8 sb S.tick) (hk8 : Kp (one sb) w w8) (hrb : w.heap.size ≤ rb) (hit : w8.heap[rb]? = some (.mapIter (some S.pb) clock #[] clock))
    (hrg : Rg w8 wr S.pb rb clock S.es es1 seen) (kA : Kp no wr wA) (hgrow : wA.grownBy w11 S.mv.ownBlock) (hown : w11.ownsRow (sb + 1) 56 4 v' (S.mg.length + 1) (flatA S.mg ++ A.cells)) (hA : A.Ok) (hno : ∀ x ∈ S.mg, ¬ x.meets A) (h32 : S.mg.length ≠ 32) :
    w11.cell? ⟨sb, 180, none⟩ = some S.mv ∧ w11.frozen? ⟨sb, 180, none⟩ = false ∧ ∃ S', Kp (shX sb S) w (w11.setCell ⟨sb, 180, none⟩ v') ∧ SheetAt (w11.setCell ⟨sb, 180, none⟩ v') sb S' ∧ S'.Ok ∧ S'.steps = S.steps + 1 ∧ S'.pb = S.pb ∧ (Born w S → Born (w11.setCell ⟨sb, 180, none⟩ v') S') := by
  have hsr : SheetAt wr sb { S.tick with es := es1 } := hs8.ranged (S := S.tick) hrg ⟨_, _, _, _, hit⟩
  have hsA := hsr.on kA
  have nsb : some sb ≠ S.mv.ownBlock := fun e => hsA.mb_ne e.symm rfl
  have npb : some S.pb ≠ S.mv.ownBlock := fun e => by
    obtain ⟨i, hi⟩ := hsA.head e.symm
    obtain ⟨c, hc⟩ := hsA.map
    have hc' : wA.heap[S.pb]? = _ := hc
    simp [World.cell?, hc'] at hi
  have eb := hgrow.block sb hsA.lt nsb
  have epb := hgrow.block S.pb hsA.pb_lt npb
  refine ⟨(World.cell?_of_block (w := wA) eb).trans hsA.mg, (World.frozen?_of_block (w := wA) (a := ⟨sb, 180, none⟩) eb).trans (hsA.free 180), { S.tick with es := es1, mg := S.mg ++ [A], mv := v' }, ?_, ?_, ?_, rfl, rfl, ?_⟩
  · have k1 : Kp (shX sb S) w wr := (hk8.sh (S := S)).trans2 hrg.kp (fun j hj e => by
      rcases e with e | e
      · exact Or.inr (Or.inl e)
      · exact absurd hj (by rw [e]; omega))
    have k2 : Kp (shX sb S) w w11 := (k1.trans (Kp.of_no kA)).trans2 (Kp.of_grownBy hgrow) (fun j _ e => Or.inr (Or.inr e))
    exact k2.setCell (p := ⟨sb, 180, none⟩) (fun _ => Or.inl rfl) _
  · refine SheetAt.setMg2 (S := { S.tick with es := es1 }) hsA hgrow v' (S.mg ++ [A]) ?_ (by simp)
    rw [List.length_append, flatA_append]
    have e : flatA [A] = A.cells := by show A.cells ++ [] = _; rw [List.append_nil]
    rw [e]
    exact hown
  · refine ⟨hok.wd, hok.ht, ?_, ?_, ?_, hok.es.sub hrg.sub, hok.steps⟩
    · have := hok.few
      change S.mg.length ≤ 32 at this
      show (S.mg ++ [A]).length ≤ 32
      rw [List.length_append]
      simp
      omega
    · intro x hx
      rcases List.mem_append.1 hx with hx | hx
      · exact hok.each x hx
      · simp only [List.mem_singleton] at hx
        subst hx
        exact hA
    · refine List.pairwise_append.2 ⟨hok.apart, by simp, fun x hx y hy => ?_⟩
      simp only [List.mem_singleton] at hy
      subst hy
      exact hno x hx
  · refine show_born hbn hrg.sub _ rfl rfl ?_
    have k2 : Kp (one sb) w11 (w11.setCell ⟨sb, 180, none⟩ v') := Kp.set _ _ rfl
    exact (k2.block _ (Nat.lt_of_lt_of_le hsA.pb_lt hgrow.size) hsA.pb_ne).trans (epb.trans ((kA.block _ hsr.pb_lt id).trans hrg.map))

set_option maxRecDepth 100000 in
set_option maxHeartbeats 2000000 in
theorem step_merge (w : World) (sb : Nat) (S : Sh) (h : SheetAt w sb S) (hS : S.Ok) (hst : S.steps < 1000000) (a b c d : Int) (tx : ByteArray) (hbn : Born w S) :
    Calls Try.prog 30 #[.pointer (some ⟨sb, 0, none⟩), .agg #[.int .i64 5, .int .i64 a, .int .i64 b, .int .i64 c, .int .i64 d, .string tx]] w (StepPost sb S 5 w) := by
  obtain ⟨w2, hw2⟩ : ∃ w2, w2 = (w.alloc (.cells #[.int .i64 5, .int .i64 a, .int .i64 b, .int .i64 c, .int .i64 d, .string tx] 28)).alloc (.cells #[.int .i64 a, .int .i64 b] 31) := ⟨_, rfl⟩
  have hP : Pre w (w2.setCell ⟨sb, 182, none⟩ (.int .u64 ((S.steps : Int) + 1))) sb S w.heap.size ⟨5, a, b, c, d, tx⟩ := Pre.of h ⟨5, a, b, c, d, tx⟩ w2 hw2
  have HOK : Hid (S.tick.Ok) := Sh.tick_ok hS hst
  have hS2 : SheetAt w2 sb S := h.on (by rw [hw2]; exact ((Kp.refl no w).alloc _).alloc _)
  have d0 := hS2.st
  have d1 := hS2.free 182
  have hsl := h.lt
  obtain ⟨clock, hmap0, hborn0, hnd0⟩ := hbn
  have HBN : Hid (w.heap[S.pb]? = some (.map S.es.toArray clock) ∧ (∀ x ∈ S.es, x.born < clock) ∧ (S.es.map (·.born)).Nodup) := ⟨hmap0, hborn0, hnd0⟩
  clear hmap0 hborn0 hnd0
  go_enter Try.func30, Try.ntmps30
  go_upto_region 2 with fail
  rw [← hw2]
  clear hw2
  go_upto_region 3 with fail
  generalize w2.setCell ⟨sb, 182, none⟩ (.int .u64 ((S.steps : Int) + 1)) = w3 at hP ⊢
  generalize w.heap.size = n0 at hP hsl ⊢
  have r0 := hP.o0
  have r1 := hP.o1
  have r2 := hP.o2
  clear d0 d1 hS2
  have r3 := hP.o3
  have r4 := hP.o4
  have r5 := hP.a0
  have r6 := hP.a1
  obtain ⟨T, hT⟩ : ∃ T, (if c < a then c else a) = T := ⟨_, rfl⟩
  obtain ⟨Lf, hLf⟩ : ∃ T, (if d < b then d else b) = T := ⟨_, rfl⟩
  obtain ⟨B, hB⟩ : ∃ T, (if a < c then c else a) = T := ⟨_, rfl⟩
  obtain ⟨R, hR⟩ : ∃ T, (if b < d then d else b) = T := ⟨_, rfl⟩
  have HTB : Hid (T ≤ B ∧ Lf ≤ R) := by
    refine ⟨?_, ?_⟩
    · rw [← hT, ← hB]; split <;> split <;> omega
    · rw [← hLf, ← hR]; split <;> split <;> omega
  obtain ⟨w4, hw4⟩ : ∃ w4, w4 = w3.alloc (.cells #[.int .i64 T, .int .i64 Lf, .int .i64 B, .int .i64 R] 56) := ⟨_, rfl⟩
  obtain ⟨b9, hb9⟩ : ∃ b9, b9 = w3.heap.size := ⟨_, rfl⟩
  have HB4 : Hid (Box4n w3 w4 b9 (.int .i64 T) (.int .i64 Lf) (.int .i64 B) (.int .i64 R)) := by
    show Box4n _ _ _ _ _ _ _
    rw [hw4, hb9]; exact Box4n.made (Kp.refl no w3) _ _ _ _ 56
  have x0 := HB4.out.box.c0
  have x1 := HB4.out.box.c1
  have x2 := HB4.out.box.c2
  have x3 := HB4.out.box.c3
  have HS4 : Hid (SheetAt w4 sb S.tick) := hP.sh.on HB4.out.box.kp
  have HK4 : Hid (Kp (one sb) w w4) := hP.kp.trans (Kp.of_no HB4.out.box.kp)
  have HI : Hid (∀ w', Calls Try.prog 27 #[.agg #[.int .i64 T, .int .i64 Lf]] w' fun e w'' => e = .returned (.bool (inS T Lf)) ∧ Kp no w' w'') := fun w' => inSheetM_at w' T Lf
  have HI2 : Hid (∀ w', Calls Try.prog 27 #[.agg #[.int .i64 B, .int .i64 R]] w' fun e w'' => e = .returned (.bool (inS B R)) ∧ Kp no w' w'') := fun w' => inSheetM_at w' B R
  go_upto_region 36 with fail
  rw [← hw4, ← hb9]
  clear hw4 hb9 hT hLf hB hR r0 r1 r2 r3 r4 r5 r6
  cases h1 : inS T Lf with
  | false =>
    rw [h1] at HI
    clear h1
    go_wp2_with fail
    refine (HI.out _).mono ?_
    rintro e w5 ⟨rfl, k5⟩
    go_wp2_with fail
    go_ret2
    exact ⟨1, S.tick, rfl, (HK4.out.trans (Kp.of_no k5)).sh, HS4.out.on k5, HOK.out, rfl, rfl, fun h => absurd h (by decide), Born.one h (HK4.out.trans (Kp.of_no k5)) _ rfl rfl⟩
  | true =>
    obtain ⟨tn, ln, rfl, rfl, ht64, hl26⟩ := inS_nat h1
    rw [h1] at HI
    clear h1
    go_wp2_with fail
    refine (HI.out _).mono ?_
    rintro e w5 ⟨rfl, k5⟩
    have y2 := k5.cell x2 id
    have y3 := k5.cell x3 id
    cases h2 : inS B R with
    | false =>
      rw [h2] at HI2
      clear h2
      go_wp2_with fail
      refine (HI2.out _).mono ?_
      rintro e w6 ⟨rfl, k6⟩
      go_wp2_with fail
      go_ret2
      exact ⟨1, S.tick, rfl, (HK4.out.trans (Kp.of_no (k5.trans k6))).sh, HS4.out.on (k5.trans k6), HOK.out, rfl, rfl, fun h => absurd h (by decide), Born.one h (HK4.out.trans (Kp.of_no (k5.trans k6))) _ rfl rfl⟩
    | true =>
      obtain ⟨bn, rn, rfl, rfl, hb64, hr26⟩ := inS_nat h2
      rw [h2] at HI2
      clear h2
      have htb : tn ≤ bn := by have := HTB.out.1; omega
      have hlr : ln ≤ rn := by have := HTB.out.2; omega
      go_wp2_with fail
      refine (HI2.out _).mono ?_
      rintro e w6 ⟨rfl, k6⟩
      have HB6 : Hid (Box4n w3 w6 b9 (.int .i64 (tn : Int)) (.int .i64 (ln : Int)) (.int .i64 (bn : Int)) (.int .i64 (rn : Int))) := HB4.out.on (k5.trans k6)
      have HS6 : Hid (SheetAt w6 sb S.tick) := HS4.out.on (k5.trans k6)
      have HK6 : Hid (Kp (one sb) w w6) := HK4.out.trans (Kp.of_no (k5.trans k6))
      have z0 := HB6.out.box.c0
      have z1 := HB6.out.box.c1
      have z2 := HB6.out.box.c2
      have z3 := HB6.out.box.c3
      clear x0 x1 x2 x3 y2 y3 k5 k6 HI HI2 HTB HB4 HS4 HK4
      go_upto_region 38 with fail
      go_cut [217] (fun s217 wx => s217 = .bool (decide (tn = bn) && decide (ln = rn)) ∧ wx = w6)
      case first =>
        by_cases e1 : tn = bn
        · have q1 : ((tn : Int) == (bn : Int)) = true := by simp [e1]
          have q2 : ((ln : Int) == (rn : Int)) = decide (ln = rn) := by
            by_cases e2 : ln = rn
            · simp [e2]
            · rw [decide_eq_false e2]; simp; omega
          have HQ : Hid ((decide (tn = bn) && decide (ln = rn)) = decide (ln = rn)) := by show _ = _; rw [decide_eq_true e1, Bool.true_and]
          obtain ⟨bl, hbl⟩ : ∃ bl, decide (ln = rn) = bl := ⟨_, rfl⟩
          have HBL : Hid (decide (ln = rn) = bl) := hbl
          rw [hbl] at q2
          clear hbl e1
          go_wp2_with fail
          go_meet
          exact ⟨by rw [HQ.out, HBL.out], rfl⟩
        · have q1 : ((tn : Int) == (bn : Int)) = false := by simp; omega
          have HQ : Hid ((decide (tn = bn) && decide (ln = rn)) = false) := by show _ = _; rw [decide_eq_false e1, Bool.false_and]
          clear e1
          go_wp2_with fail
          go_meet
          exact ⟨by rw [HQ.out], rfl⟩
      case rest =>
        obtain ⟨rfl, hww⟩ := hcut
        obtain rfl := hww.symm
        obtain ⟨b1, hb1⟩ : ∃ b1, (decide (tn = bn) && decide (ln = rn)) = b1 := ⟨_, rfl⟩
        rw [hb1]
        clear hb1
        cases b1 with
        | true =>
          go_wp2_with fail
          go_ret2
          exact ⟨4, S.tick, rfl, HK6.out.sh, HS6.out, HOK.out, rfl, rfl, fun h => absurd h (by decide), Born.one h HK6.out _ rfl rfl⟩
        | false =>
          obtain ⟨p, cap, hmv, hcells⟩ := HS6.out.mvs
          obtain ⟨M, hM⟩ : ∃ M, M = S.mg := ⟨_, rfl⟩
          have HMM : Hid (M = S.mg) := hM
          have hmv' : S.mv = .slice p M.length cap := by rw [hM]; exact hmv
          have mg' : w6.cell? ⟨sb, 180, none⟩ = some (.slice p M.length cap) := by rw [← hmv']; exact HS6.out.mg
          have fr := HS6.out.free 180
          have h32 : M.length ≤ 32 := by rw [hM]; exact hS.few
          have HC : Hid (M ≠ [] → ∃ g, p = some ⟨g, 0, none⟩ ∧ ∀ (k : Nat) (a : Ar), M[k]? = some a → w6.cell? ⟨g, k * 4, none⟩ = some (.int .i64 (a.t : Int)) ∧ w6.cell? ⟨g, k * 4 + 1, none⟩ = some (.int .i64 (a.l : Int)) ∧ w6.cell? ⟨g, k * 4 + 2, none⟩ = some (.int .i64 (a.b : Int)) ∧ w6.cell? ⟨g, k * 4 + 3, none⟩ = some (.int .i64 (a.r : Int))) := by
            show _ → _
            rw [hM]; exact hcells
          have HMV : Hid (S.mv = .slice p M.length cap) := hmv'
          clear hM hmv hmv' hcells
          go_wp2_with fail
          go_loopw [223] (fun kv wr => ∃ k : Nat, k ≤ M.length ∧ kv = .int .i64 (k : Int) ∧ Kp no w6 wr ∧ Hid (∀ (j : Nat) (x : Ar), j < k → M[j]? = some x → ¬ x.meets ⟨tn, ln, bn, rn⟩)) (fun kv _ => M.length - (intOf kv).toNat)
          case atStart => exact ⟨0, Nat.zero_le _, rfl, Kp.refl _ _, fun j x hj => by omega⟩
          case round =>
            obtain ⟨k, hk, rfl, kr, HN⟩ := hrel
            by_cases hlt : k < M.length
            · obtain ⟨o, ho⟩ : ∃ a, M[k]? = some a := ⟨_, List.getElem?_eq_getElem hlt⟩
              obtain ⟨g, hp, hcells⟩ := HC.out (fun e => by rw [e] at hlt; exact absurd hlt (by simp))
              subst hp
              obtain ⟨c0, c1, c2, c3⟩ := hcells k o ho
              have HO : Hid (M[k]? = some o) := ho
              have g0 := kr.cell c0 id
              have g1 := kr.cell c1 id
              have g2 := kr.cell c2 id
              have g3 := kr.cell c3 id
              obtain ⟨w7, hw7⟩ : ∃ w7, w7 = wr.alloc (.cells #[.int .i64 (o.t : Int), .int .i64 (o.l : Int), .int .i64 (o.b : Int), .int .i64 (o.r : Int)] 56) := ⟨_, rfl⟩
              obtain ⟨b7, hb7⟩ : ∃ b7, b7 = wr.heap.size := ⟨_, rfl⟩
              have k7 : Kp no wr w7 := by rw [hw7]; exact (Kp.refl no wr).alloc _
              have v0 : w7.cell? ⟨b7, 0, none⟩ = some (.int .i64 (o.t : Int)) := by rw [hw7, hb7]; simp
              have v1 : w7.cell? ⟨b7, 1, none⟩ = some (.int .i64 (o.l : Int)) := by rw [hw7, hb7]; simp
              have v2 : w7.cell? ⟨b7, 2, none⟩ = some (.int .i64 (o.b : Int)) := by rw [hw7, hb7]; simp
              have v3 : w7.cell? ⟨b7, 3, none⟩ = some (.int .i64 (o.r : Int)) := by rw [hw7, hb7]; simp
              have u0 := k7.cell (kr.cell z0 id) id
              have u1 := k7.cell (kr.cell z1 id) id
              have u2 := k7.cell (kr.cell z2 id) id
              have u3 := k7.cell (kr.cell z3 id) id
              clear ho c0 c1 c2 c3 hcells
              go_upto_region 43 with fail
              rw [← hw7, ← hb7]
              clear hw7 hb7 g0 g1 g2 g3
              go_cut [252] (fun s252 wx => s252 = .bool (decide (o.t ≤ bn) && decide (tn ≤ o.b) && decide (o.l ≤ rn) && decide (ln ≤ o.r)) ∧ wx = w7)
              case first =>
                by_cases e1 : o.t ≤ bn
                · have q1 : (o.t : Int) ≤ (bn : Int) := by omega
                  by_cases e2 : tn ≤ o.b
                  · have q2 : (tn : Int) ≤ (o.b : Int) := by omega
                    by_cases e3 : o.l ≤ rn
                    · have q3 : (o.l : Int) ≤ (rn : Int) := by omega
                      have HQ : Hid ((decide (o.t ≤ bn) && decide (tn ≤ o.b) && decide (o.l ≤ rn) && decide (ln ≤ o.r)) = decide (ln ≤ o.r)) := by show _ = _; simp [e1, e2, e3]
                      clear e1 e2 e3
                      go_wp2_with fail
                      go_meet
                      exact ⟨by rw [HQ.out], rfl⟩
                    · have q3 : ¬ (o.l : Int) ≤ (rn : Int) := by omega
                      have HQ : Hid ((decide (o.t ≤ bn) && decide (tn ≤ o.b) && decide (o.l ≤ rn) && decide (ln ≤ o.r)) = false) := by show _ = _; simp [e3]
                      clear e1 e2 e3
                      go_wp2_with fail
                      go_meet
                      exact ⟨by rw [HQ.out], rfl⟩
                  · have q2 : ¬ (tn : Int) ≤ (o.b : Int) := by omega
                    have HQ : Hid ((decide (o.t ≤ bn) && decide (tn ≤ o.b) && decide (o.l ≤ rn) && decide (ln ≤ o.r)) = false) := by show _ = _; simp [e2]
                    clear e1 e2
                    go_wp2_with fail
                    go_meet
                    exact ⟨by rw [HQ.out], rfl⟩
                · have q1 : ¬ (o.t : Int) ≤ (bn : Int) := by omega
                  have HQ : Hid ((decide (o.t ≤ bn) && decide (tn ≤ o.b) && decide (o.l ≤ rn) && decide (ln ≤ o.r)) = false) := by show _ = _; simp [e1]
                  clear e1
                  go_wp2_with fail
                  go_meet
                  exact ⟨by rw [HQ.out], rfl⟩
              case rest =>
                obtain ⟨rfl, hww⟩ := hcut
                obtain rfl := hww.symm
                obtain ⟨b2, hb2⟩ : ∃ b2, (decide (o.t ≤ bn) && decide (tn ≤ o.b) && decide (o.l ≤ rn) && decide (ln ≤ o.r)) = b2 := ⟨_, rfl⟩
                rw [hb2]
                have HB2 : Hid (o.meets ⟨tn, ln, bn, rn⟩ ↔ b2 = true) := by
                  show _ ↔ _
                  rw [← hb2]
                  simp [Ar.meets, and_assoc]
                clear hb2
                cases b2 with
                | true =>
                  go_wp2_with fail
                  go_ret2
                  exact ⟨5, S.tick, rfl, (HK6.out.trans (Kp.of_no (kr.trans k7))).sh, HS6.out.on (kr.trans k7), HOK.out, rfl, rfl, fun h => absurd h (by decide), Born.one h (HK6.out.trans (Kp.of_no (kr.trans k7))) _ rfl rfl⟩
                | false =>
                  have HN2 : Hid (∀ (j : Nat) (x : Ar), j < k + 1 → M[j]? = some x → ¬ x.meets ⟨tn, ln, bn, rn⟩) := fun j x hj hx => by
                    rcases Nat.lt_or_ge j k with h' | h'
                    · exact HN.out j x h' hx
                    · have : j = k := by omega
                      subst this
                      rw [HO.out] at hx
                      injection hx with hx
                      subst hx
                      intro hm
                      exact absurd (HB2.out.1 hm) (by decide)
                  clear HN HB2 HO
                  go_wp2_with fail
                  refine ⟨⟨k + 1, by omega, by go_num, kr.trans k7, HN2⟩, by simp [intOf]; omega⟩
            · have HNO : Hid (∀ x ∈ M, ¬ x.meets ⟨tn, ln, bn, rn⟩) := fun x hx => by
                obtain ⟨j, hj⟩ := List.mem_iff_getElem?.1 hx
                exact HN.out j x (by have := (List.getElem?_eq_some_iff.1 hj).1; omega) hj
              have hk' : M.length = k := by omega
              have y8 := kr.cell mg' id
              have HSR : Hid (SheetAt wr sb S.tick) := HS6.out.on kr
              have HKR : Hid (Kp (one sb) w wr) := HK6.out.trans (Kp.of_no kr)
              have HB7 : Hid (Box4n w3 wr b9 (.int .i64 (tn : Int)) (.int .i64 (ln : Int)) (.int .i64 (bn : Int)) (.int .i64 (rn : Int))) := HB6.out.on kr
              subst hk'
              by_cases hfull : M.length = 32
              · have q1 : ((M.length : Int) == 32) = true := by simp; omega
                clear HN hlt
                go_wp2_with fail
                go_ret2
                exact ⟨6, S.tick, rfl, HKR.out.sh, HSR.out, HOK.out, rfl, rfl, fun h => absurd h (by decide), Born.one h HKR.out _ rfl rfl⟩
              · have q1 : ((M.length : Int) == 32) = false := by simp; omega
                have HMR : Hid (wr.heap[S.pb]? = some (.map S.es.toArray clock)) := (HKR.out.block _ h.pb_lt h.pb_ne).trans HBN.out.1
                have y9 : wr.cell? ⟨sb, 181, none⟩ = some (.map (some S.pb)) := HSR.out.mp
                have hrg := run_range_map (P := Try.prog) wr 86 31 70 S.pb S.es.toArray clock Try.underlying86 HMR.out
                clear HN hlt z0 z1 z2 z3
                obtain ⟨w8, hw8⟩ : ∃ w8, w8 = wr.alloc (.mapIter (some S.pb) clock #[] clock) := ⟨_, rfl⟩
                obtain ⟨rb, hrb⟩ : ∃ rb, rb = wr.heap.size := ⟨_, rfl⟩
                have k8 : Kp no wr w8 := by rw [hw8]; exact (Kp.refl no wr).alloc _
                have HRBN : Hid (rb = wr.heap.size) := hrb
                have HIT : Hid (w8.heap[rb]? = some (.mapIter (some S.pb) clock #[] clock)) := by
                  show _ = _
                  rw [hw8, hrb]; exact heap_alloc_new _ _
                have HR8 : Hid (Rg w8 w8 S.pb rb clock S.es S.es #[]) := ⟨List.Sublist.refl _, (k8.block _ (get_lt HMR.out) id).trans HMR.out, HIT.out, Kp.refl _ _⟩
                have HS8 : Hid (SheetAt w8 sb S.tick) := HSR.out.on k8
                have HK8 : Hid (Kp (one sb) w w8) := HKR.out.trans (Kp.of_no k8)
                have HB8 : Hid (Box4n w3 w8 b9 (.int .i64 (tn : Int)) (.int .i64 (ln : Int)) (.int .i64 (bn : Int)) (.int .i64 (rn : Int))) := HB7.out.on k8
                go_upto_region 49 with fail
                rw [← hw8, ← hrb]
                clear hw8 hrb hrg y8 y9 k8 kr mg' fr
                have HRB : Hid (w.heap.size ≤ rb) := by
                  show _ ≤ _
                  rcases Nat.lt_or_ge rb w.heap.size with h' | h'
                  · have h1 := HKR.out.size
                    have h2 := HRBN.out
                    omega
                  · exact h'
                clear HRBN HSR HKR HMR HB7 HS6 HK6 HB6
                go_loopw [12] (fun _ wq => ∃ es1 seen, Rg w8 wq S.pb rb clock S.es es1 seen) (fun _ wq => wq.rangeLeft S.pb rb)
                case atStart => exact ⟨_, _, HR8.out⟩
                case round =>
                  obtain ⟨es1, seen, hrel1⟩ := hrel
                  have HRG : Hid (Rg w8 wr S.pb rb clock S.es es1 seen) := hrel1
                  clear hrel1
                  have hold : ∀ x ∈ es1.toArray.toList, x.born < clock := fun x hx => HBN.out.2.1 x (HRG.out.sub.subset (by simpa using hx))
                  have HPM : Hid (∃ e c, w8.heap[S.pb]? = some (.map e c)) := ⟨_, _, HR8.out.map⟩
                  have HPI : Hid (∃ m s q c, w8.heap[rb]? = some (.mapIter m s q c)) := ⟨_, _, _, _, HIT.out⟩
                  rcases run_next_at (P := Try.prog) wr 0 rb S.pb clock clock seen es1.toArray clock HRG.out.it HRG.out.map hold (Nat.le_refl _) with ⟨_, hnx0⟩ | ⟨e, he, w1, hw1, hnx0⟩
                  · have hnx : ∀ ty, (Instr.next (.pointer (some ⟨rb, 0, none⟩)) false ty).run Try.prog wr = .ok (.tuple #[.bool false]) wr := fun ty => hnx0
                    clear hnx0 hold
                    have t0 := HRG.out.cell HPM.out HPI.out HB8.out.box.c0
                    have t1 := HRG.out.cell HPM.out HPI.out HB8.out.box.c1
                    have t2 := HRG.out.cell HPM.out HPI.out HB8.out.box.c2
                    have t3 := HRG.out.cell HPM.out HPI.out HB8.out.box.c3
                    have HSX : Hid (SheetAt wr sb { S.tick with es := es1 }) := SheetAt.ranged (S := S.tick) HS8.out HRG.out HPI.out
                    have t4 : wr.cell? ⟨sb, 180, none⟩ = some (.slice p M.length cap) := by rw [← HMV.out]; exact HSX.out.mg
                    have hrow : wr.ownsRow (sb + 1) 56 4 (.slice p M.length cap) M.length (flatA M) := by
                      have h0 := HSX.out.mrow
                      change wr.ownsRow (sb + 1) 56 4 S.mv S.mg.length (flatA S.mg) at h0
                      rw [HMV.out, ← HMM.out] at h0
                      exact h0
                    have hsl9 : sb < wr.heap.size := HSX.out.lt
                    have HEND : Hid (∀ wA w11 v', Kp no wr wA → wA.grownBy w11 (Value.slice p M.length cap).ownBlock → w11.ownsRow (sb + 1) 56 4 v' (M.length + 1) (flatA M ++ [.int .i64 (tn : Int), .int .i64 (ln : Int), .int .i64 (bn : Int), .int .i64 (rn : Int)]) →
                        w11.cell? ⟨sb, 180, none⟩ = some S.mv ∧ w11.frozen? ⟨sb, 180, none⟩ = false ∧ ∃ S', Kp (shX sb S) w (w11.setCell ⟨sb, 180, none⟩ v') ∧ SheetAt (w11.setCell ⟨sb, 180, none⟩ v') sb S' ∧ S'.Ok ∧ S'.steps = S.steps + 1 ∧ S'.pb = S.pb ∧ (Born w S → Born (w11.setCell ⟨sb, 180, none⟩ v') S')) := fun wA w11 v' kA hg ho => by
                      rw [← HMV.out] at hg
                      rw [HMM.out] at ho
                      exact merge_end (A := ⟨tn, ln, bn, rn⟩) HOK.out HBN.out.1 HS8.out HK8.out HRB.out HIT.out HRG.out kA hg ho ⟨htb, hlr, hb64, hr26⟩ (by rw [← HMM.out]; exact HNO.out) (by rw [← HMM.out]; exact hfull)
                    obtain ⟨i0, hi, hz0, hz1, hz2⟩ := info_parts info56
                    clear HRG HSX
                    go_upto_region 53 with fail
                    refine wp_region_any (by kernel_rfl) ?_
                    change wpAny _ _ _ _ _ _ _ (World.drew _)
                    refine wpAny_take (i := 0) (v := (.pointer (some ⟨sb, 0, none⟩))) rfl (by kernel_rfl) (by kernel_rfl) (by kernel_rfl) (fun _ _ _ h => h) (Or.inl ⟨by rfl, by intro w; go_simp⟩) ?_
                    refine wpAny_take (i := 1) (v := (.pointer (some ⟨sb, 0, none⟩))) rfl (by kernel_rfl) (by kernel_rfl) (by kernel_rfl) (fun _ _ _ h => h) (Or.inl ⟨by rfl, by intro w; go_simp⟩) ?_
                    refine wpAny_take (i := 2) (v := (.pointer (some ⟨sb, 0, none⟩))) rfl (by kernel_rfl) (by kernel_rfl) (by kernel_rfl) (fun _ _ _ h => h) (Or.inl ⟨by rfl, by intro w; go_simp⟩) ?_
                    refine wpAny_take (i := 3) (v := (.pointer (some ⟨sb, 180, none⟩))) rfl (by kernel_rfl) (by kernel_rfl) (by kernel_rfl) (fun _ _ _ h => h) (Or.inl ⟨by rfl, by intro w; go_simp⟩) ?_
                    refine wpAny_ready (rs := [4, 5]) (by kernel_rfl) (by simp) ?_
                    refine AllReady.cons rfl (fun K hK => ?_) (AllReady.cons rfl (fun K hK => ?_) AllReady.nil)
                    · go_simp
                      refine hK _ _ ?_
                      clear hK K
                      refine wpAny_ready (rs := [5]) (by kernel_rfl) (by simp) ?_
                      refine AllReady.cons rfl (fun K hK => ?_) AllReady.nil
                      go_simp
                      refine hK _ _ ?_
                      clear hK K
                      refine wpAny_ready (rs := [6]) (by kernel_rfl) (by simp) ?_
                      refine AllReady.cons rfl (fun K hK => ?_) AllReady.nil
                      go_simp
                      refine hK _ _ ?_
                      clear hK K
                      refine wpAny_ready (rs := [7]) (by kernel_rfl) (by simp) ?_
                      refine AllReady.cons rfl (fun K hK => ?_) AllReady.nil
                      refine step_append_own rfl _ _ 85 rfl (sb + 1) 56 i0 (.agg #[.int .i64 0, .int .i64 0, .int .i64 0, .int .i64 0]) 4 32 Try.underlying85 hi hz0 hz1 hz2 rfl (by decide) (.slice p M.length cap) M.length (flatA M) rfl ((hrow.alloc _).drew) ⟨wr.heap.size, 0, none⟩ 1 1 [.int .i64 (tn : Int), .int .i64 (ln : Int), .int .i64 (bn : Int), .int .i64 (rn : Int)] rfl rfl (fun j u hj => cell_four_new wr _ _ _ _ 56 j u hj) (by intro u hu; simp at hu; rcases hu with rfl | rfl | rfl | rfl <;> rfl) (by unfold maxLen; omega) (by omega) (by simp; omega) ?_
                      intro v' w11 hown' hgrow
                      obtain ⟨p1, p2, p3, hv'⟩ := owns_shape hown'
                      subst hv'
                      have HE := HEND.out _ w11 _ (((Kp.refl no wr).alloc _).drew) hgrow hown'
                      obtain ⟨j1, j2, S2, e1, e2, e3, e4, e5, e6⟩ := HE
                      rw [HMV.out] at j1
                      have HE2 : Hid (Kp (shX sb S) w (w11.setCell ⟨sb, 180, none⟩ (.slice p1 p2 p3)) ∧ SheetAt (w11.setCell ⟨sb, 180, none⟩ (.slice p1 p2 p3)) sb S2 ∧ S2.Ok ∧ S2.steps = S.steps + 1 ∧ S2.pb = S.pb ∧ (Born w S → Born (w11.setCell ⟨sb, 180, none⟩ (.slice p1 p2 p3)) S2)) := ⟨e1, e2, e3, e4, e5, e6⟩
                      clear e1 e2 e3 e4 e5 e6 hown' hgrow
                      refine hK _ _ ?_
                      clear hK K
                      refine wpAny_take (i := 8) (v := (.pointer (some ⟨sb, 0, none⟩))) rfl (by kernel_rfl) (by kernel_rfl) (by kernel_rfl) (fun _ _ _ h => h) (Or.inl ⟨by rfl, by intro w; go_simp⟩) ?_
                      refine wpAny_take (i := 9) (v := (.pointer (some ⟨sb, 180, none⟩))) rfl (by kernel_rfl) (by kernel_rfl) (by kernel_rfl) (fun _ _ _ h => h) (Or.inl ⟨by rfl, by intro w; go_simp⟩) ?_
                      refine wpAny_ready (rs := [10]) (by kernel_rfl) (by simp) ?_
                      refine AllReady.cons rfl (fun K hK => ?_) AllReady.nil
                      go_simp
                      refine hK _ _ ?_
                      clear hK K
                      refine wpAny_done (by kernel_rfl) ?_ _
                      go_wp2_with fail
                      go_ret2
                      exact ⟨0, S2, rfl, HE2.out.1, HE2.out.2.1, HE2.out.2.2.1, HE2.out.2.2.2.1, HE2.out.2.2.2.2.1, fun h => absurd h (by decide), HE2.out.2.2.2.2.2⟩
                    · go_simp
                      refine hK _ _ ?_
                      clear hK K
                      refine wpAny_ready (rs := [4, 6]) (by kernel_rfl) (by simp) ?_
                      refine AllReady.cons rfl (fun K hK => ?_) (AllReady.cons rfl (fun K hK => ?_) AllReady.nil)
                      · go_simp
                        refine hK _ _ ?_
                        clear hK K
                        refine wpAny_ready (rs := [6]) (by kernel_rfl) (by simp) ?_
                        refine AllReady.cons rfl (fun K hK => ?_) AllReady.nil
                        go_simp
                        refine hK _ _ ?_
                        clear hK K
                        refine wpAny_ready (rs := [7]) (by kernel_rfl) (by simp) ?_
                        refine AllReady.cons rfl (fun K hK => ?_) AllReady.nil
                        refine step_append_own rfl _ _ 85 rfl (sb + 1) 56 i0 (.agg #[.int .i64 0, .int .i64 0, .int .i64 0, .int .i64 0]) 4 32 Try.underlying85 hi hz0 hz1 hz2 rfl (by decide) (.slice p M.length cap) M.length (flatA M) rfl ((hrow.alloc _).drew) ⟨wr.heap.size, 0, none⟩ 1 1 [.int .i64 (tn : Int), .int .i64 (ln : Int), .int .i64 (bn : Int), .int .i64 (rn : Int)] rfl rfl (fun j u hj => cell_four_new wr _ _ _ _ 56 j u hj) (by intro u hu; simp at hu; rcases hu with rfl | rfl | rfl | rfl <;> rfl) (by unfold maxLen; omega) (by omega) (by simp; omega) ?_
                        intro v' w11 hown' hgrow
                        obtain ⟨p1, p2, p3, hv'⟩ := owns_shape hown'
                        subst hv'
                        have HE := HEND.out _ w11 _ (((Kp.refl no wr).alloc _).drew) hgrow hown'
                        obtain ⟨j1, j2, S2, e1, e2, e3, e4, e5, e6⟩ := HE
                        rw [HMV.out] at j1
                        have HE2 : Hid (Kp (shX sb S) w (w11.setCell ⟨sb, 180, none⟩ (.slice p1 p2 p3)) ∧ SheetAt (w11.setCell ⟨sb, 180, none⟩ (.slice p1 p2 p3)) sb S2 ∧ S2.Ok ∧ S2.steps = S.steps + 1 ∧ S2.pb = S.pb ∧ (Born w S → Born (w11.setCell ⟨sb, 180, none⟩ (.slice p1 p2 p3)) S2)) := ⟨e1, e2, e3, e4, e5, e6⟩
                        clear e1 e2 e3 e4 e5 e6 hown' hgrow
                        refine hK _ _ ?_
                        clear hK K
                        refine wpAny_take (i := 8) (v := (.pointer (some ⟨sb, 0, none⟩))) rfl (by kernel_rfl) (by kernel_rfl) (by kernel_rfl) (fun _ _ _ h => h) (Or.inl ⟨by rfl, by intro w; go_simp⟩) ?_
                        refine wpAny_take (i := 9) (v := (.pointer (some ⟨sb, 180, none⟩))) rfl (by kernel_rfl) (by kernel_rfl) (by kernel_rfl) (fun _ _ _ h => h) (Or.inl ⟨by rfl, by intro w; go_simp⟩) ?_
                        refine wpAny_ready (rs := [10]) (by kernel_rfl) (by simp) ?_
                        refine AllReady.cons rfl (fun K hK => ?_) AllReady.nil
                        go_simp
                        refine hK _ _ ?_
                        clear hK K
                        refine wpAny_done (by kernel_rfl) ?_ _
                        go_wp2_with fail
                        go_ret2
                        exact ⟨0, S2, rfl, HE2.out.1, HE2.out.2.1, HE2.out.2.2.1, HE2.out.2.2.2.1, HE2.out.2.2.2.2.1, fun h => absurd h (by decide), HE2.out.2.2.2.2.2⟩
                      · go_simp
                        refine hK _ _ ?_
                        clear hK K
                        refine wpAny_ready (rs := [4]) (by kernel_rfl) (by simp) ?_
                        refine AllReady.cons rfl (fun K hK => ?_) AllReady.nil
                        go_simp
                        refine hK _ _ ?_
                        clear hK K
                        refine wpAny_ready (rs := [7]) (by kernel_rfl) (by simp) ?_
                        refine AllReady.cons rfl (fun K hK => ?_) AllReady.nil
                        refine step_append_own rfl _ _ 85 rfl (sb + 1) 56 i0 (.agg #[.int .i64 0, .int .i64 0, .int .i64 0, .int .i64 0]) 4 32 Try.underlying85 hi hz0 hz1 hz2 rfl (by decide) (.slice p M.length cap) M.length (flatA M) rfl ((hrow.alloc _).drew) ⟨wr.heap.size, 0, none⟩ 1 1 [.int .i64 (tn : Int), .int .i64 (ln : Int), .int .i64 (bn : Int), .int .i64 (rn : Int)] rfl rfl (fun j u hj => cell_four_new wr _ _ _ _ 56 j u hj) (by intro u hu; simp at hu; rcases hu with rfl | rfl | rfl | rfl <;> rfl) (by unfold maxLen; omega) (by omega) (by simp; omega) ?_
                        intro v' w11 hown' hgrow
                        obtain ⟨p1, p2, p3, hv'⟩ := owns_shape hown'
                        subst hv'
                        have HE := HEND.out _ w11 _ (((Kp.refl no wr).alloc _).drew) hgrow hown'
                        obtain ⟨j1, j2, S2, e1, e2, e3, e4, e5, e6⟩ := HE
                        rw [HMV.out] at j1
                        have HE2 : Hid (Kp (shX sb S) w (w11.setCell ⟨sb, 180, none⟩ (.slice p1 p2 p3)) ∧ SheetAt (w11.setCell ⟨sb, 180, none⟩ (.slice p1 p2 p3)) sb S2 ∧ S2.Ok ∧ S2.steps = S.steps + 1 ∧ S2.pb = S.pb ∧ (Born w S → Born (w11.setCell ⟨sb, 180, none⟩ (.slice p1 p2 p3)) S2)) := ⟨e1, e2, e3, e4, e5, e6⟩
                        clear e1 e2 e3 e4 e5 e6 hown' hgrow
                        refine hK _ _ ?_
                        clear hK K
                        refine wpAny_take (i := 8) (v := (.pointer (some ⟨sb, 0, none⟩))) rfl (by kernel_rfl) (by kernel_rfl) (by kernel_rfl) (fun _ _ _ h => h) (Or.inl ⟨by rfl, by intro w; go_simp⟩) ?_
                        refine wpAny_take (i := 9) (v := (.pointer (some ⟨sb, 180, none⟩))) rfl (by kernel_rfl) (by kernel_rfl) (by kernel_rfl) (fun _ _ _ h => h) (Or.inl ⟨by rfl, by intro w; go_simp⟩) ?_
                        refine wpAny_ready (rs := [10]) (by kernel_rfl) (by simp) ?_
                        refine AllReady.cons rfl (fun K hK => ?_) AllReady.nil
                        go_simp
                        refine hK _ _ ?_
                        clear hK K
                        refine wpAny_done (by kernel_rfl) ?_ _
                        go_wp2_with fail
                        go_ret2
                        exact ⟨0, S2, rfl, HE2.out.1, HE2.out.2.1, HE2.out.2.2.1, HE2.out.2.2.2.1, HE2.out.2.2.2.2.1, fun h => absurd h (by decide), HE2.out.2.2.2.2.2⟩
                  · have hem := leftOf_mem he
                    obtain ⟨er, ec, es', hE⟩ := HOK.out.es.each e (HRG.out.sub.subset hem)
                    have hrr := hE.r
                    have hcc := hE.c
                    have HLE : Hid ((leftOf es1.toArray (seen.push e.born)).size < (leftOf es1.toArray seen).size) := left_shrinks _ _ _ he
                    obtain ⟨w9, hw9⟩ : ∃ w9, w9 = setBlock w1 rb (.mapIter (some S.pb) clock (seen.push e.born) clock) := ⟨_, rfl⟩
                    have HRG9 : Hid (Rg w8 w9 S.pb rb clock S.es es1 (seen.push e.born)) := by
                      show Rg _ _ _ _ _ _ _ _
                      rw [hw9]; exact HRG.out.turn hw1 _
                    have hnx : ∀ ty, (Instr.next (.pointer (some ⟨rb, 0, none⟩)) false ty).run Try.prog wr = .ok (.tuple #[.bool true, .agg #[.int .i64 (er : Int), .int .i64 (ec : Int)], es'.v]) w9 := fun ty => by
                      have h0 := hnx0
                      rw [← hw9, hE.key, hE.val] at h0
                      exact h0
                    have hen : (Instr.entry (.pointer (some ⟨rb, 0, none⟩))).run Try.prog w9 = .ok (.tuple #[.agg #[.int .i64 (er : Int), .int .i64 (ec : Int)], es'.v]) w9 := by
                      have h0 := run_entry_at (P := Try.prog) w9 rb S.pb clock seen es1.toArray clock e HRG9.out.it HRG9.out.map (by simpa using hem) (by
                        have := HBN.out.2.2.sublist (HRG.out.sub.map (·.born))
                        simpa using this)
                      rw [hE.key, hE.val] at h0
                      exact h0
                    obtain ⟨nb, hnb⟩ : ∃ nb, seen.push e.born = nb := ⟨_, rfl⟩
                    rw [hnb] at HRG9 HLE
                    have HLR : Hid (wr.rangeLeft S.pb rb = (leftOf es1.toArray seen).size) := HRG.out.left
                    clear hnx0 hold hw9 hw1 he hem hE hnb HRG
                    obtain ⟨sv, hsv⟩ : ∃ sv, es'.v = sv := ⟨_, rfl⟩
                    rw [hsv] at hnx hen
                    clear hsv
                    obtain ⟨wd, hwd⟩ : ∃ wd, wd = w9.alloc (.cells #[.int .i64 (er : Int), .int .i64 (ec : Int)] 31) := ⟨_, rfl⟩
                    obtain ⟨bd, hbd⟩ : ∃ bd, bd = w9.heap.size := ⟨_, rfl⟩
                    have HRGd : Hid (Rg w8 wd S.pb rb clock S.es es1 nb) := by
                      show Rg _ _ _ _ _ _ _ _
                      rw [hwd]; exact HRG9.out.on ((Kp.refl no w9).alloc _)
                    have t0 := HRGd.out.cell HPM.out HPI.out HB8.out.box.c0
                    have t1 := HRGd.out.cell HPM.out HPI.out HB8.out.box.c1
                    have t2 := HRGd.out.cell HPM.out HPI.out HB8.out.box.c2
                    have t3 := HRGd.out.cell HPM.out HPI.out HB8.out.box.c3
                    have t4 : wd.cell? ⟨bd, 0, none⟩ = some (.int .i64 (er : Int)) := by rw [hwd, hbd]; simp
                    have t5 : wd.cell? ⟨bd, 1, none⟩ = some (.int .i64 (ec : Int)) := by rw [hwd, hbd]; simp
                    go_upto_region 51 with fail
                    rw [← hwd, ← hbd]
                    clear hwd hbd hnx hen HRG9
                    obtain ⟨bh, hbh⟩ : ∃ bh, (⟨tn, ln, bn, rn⟩ : Ar).has er ec = bh := ⟨_, rfl⟩
                    have HW : Hid (∀ w', Calls Try.prog 39 #[.agg #[.int .i64 (tn : Int), .int .i64 (ln : Int), .int .i64 (bn : Int), .int .i64 (rn : Int)], .agg #[.int .i64 (er : Int), .int .i64 (ec : Int)]] w' fun e w'' => e = .returned (.bool bh) ∧ Kp no w' w'') := fun w' => by
                      have h0 := within_at w' ⟨tn, ln, bn, rn⟩ er ec
                      rw [hbh] at h0
                      exact h0
                    clear hbh
                    go_cut [285] (fun s285 wx => ∃ bq, s285 = .bool bq ∧ Kp no wd wx)
                    case first =>
                      go_wp2_with fail
                      refine (HW.out _).mono ?_
                      rintro e2 wz ⟨rfl, kz⟩
                      have y0 := kz.cell t0 id
                      have y1 := kz.cell t1 id
                      have y4 := kz.cell t4 id
                      have y5 := kz.cell t5 id
                      cases bh with
                      | false =>
                        go_wp2_with fail
                        go_meet
                        exact ⟨false, rfl, kz⟩
                      | true =>
                        by_cases e1 : er = tn
                        · have q1 : ((er : Int) != (tn : Int)) = false := by simp [e1]
                          clear e1
                          go_wp2_with fail
                          go_meet
                          exact ⟨_, rfl, kz⟩
                        · have q1 : ((er : Int) != (tn : Int)) = true := by simp; omega
                          clear e1
                          go_wp2_with fail
                          go_meet
                          exact ⟨_, rfl, kz⟩
                    case rest =>
                      obtain ⟨bq, rfl, kz⟩ := hcut
                      obtain ⟨we, rfl⟩ : ∃ we, we = wc := ⟨_, rfl⟩
                      have HRGe : Hid (Rg w8 we S.pb rb clock S.es es1 nb) := HRGd.out.on kz
                      have y4 := kz.cell t4 id
                      have y5 := kz.cell t5 id
                      have y9 := HRGe.out.cell HPM.out HPI.out HS8.out.mp
                      have y9' : we.cell? ⟨sb, 181, none⟩ = some (.map (some S.pb)) := y9
                      clear y9 t0 t1 t2 t3 t4 t5 kz HW HRGd
                      cases bq with
                      | false =>
                        clear y9' y4 y5
                        go_wp2_with fail
                        refine ⟨⟨es1, nb, HRGe.out⟩, ?_⟩
                        rw [HRGe.out.left, HLR.out]
                        exact HLE.out
                      | true =>
                        obtain ⟨es2, hsub2, hno2, hdel⟩ := run_drop (HOK.out.es.sub HRGe.out.sub) hrr hcc
                        have HSUB : Hid (es2.Sublist es1) := hsub2
                        have hd0 := hdel we S.pb clock 0 HRGe.out.map
                        have hd1 := hdel we.drew S.pb clock 0 HRGe.out.map
                        clear hdel hno2 hsub2
                        unfold addrV at hd0 hd1
                        go_wp2_with fail
                        go_region
                        have HRGf : Hid (Rg w8 (setBlock we.drew S.pb (.map es2.toArray clock)) S.pb rb clock S.es es2 nb) := HRGe.out.drop (Or.inr rfl) HSUB.out
                        have HLF : Hid ((leftOf es2.toArray nb).size ≤ (leftOf es1.toArray nb).size) := left_sub HSUB.out nb
                        generalize setBlock we.drew S.pb (.map es2.toArray clock) = wf at HRGf ⊢
                        clear hd0 hd1 y4 y5 y9'
                        all_goals go_wp2_with fail
                        refine ⟨⟨es2, nb, HRGf.out⟩, ?_⟩
                        rw [HRGf.out.left, HLR.out]
                        exact Nat.lt_of_le_of_lt HLF.out HLE.out
end Go.Proofs.Qxb6500653a
