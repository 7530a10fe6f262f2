/-
  A SCRIPT IN MEMORY: what the walks are told of '[]api.Op' that came in; and that every argument which can be read is one.
-/
import Derived.Test.Qxb6500653aStepA
import Derived.ProofKit
import Derived.ChangeOld
import Derived.Deep.Slices
import Derived.Deep.Fields
import Derived.OpenShut
import Derived.SizedLaws
namespace Go.Proofs.Qxb6500653a
open Go.RowKit Go.ChangeShapes Go.WideShapes

/-- one step of the script at block b, cell o -/
structure OpAt (w : World) (b o : Nat) (d : Od) : Prop where
  c0 : w.cell? ⟨b, o, none⟩ = some (.int .i64 d.kind)
  c1 : w.cell? ⟨b, o + 1, none⟩ = some (.int .i64 d.a)
  c2 : w.cell? ⟨b, o + 2, none⟩ = some (.int .i64 d.b)
  c3 : w.cell? ⟨b, o + 3, none⟩ = some (.int .i64 d.c)
  c4 : w.cell? ⟨b, o + 4, none⟩ = some (.int .i64 d.d)
  c5 : w.cell? ⟨b, o + 5, none⟩ = some (.string d.text)
  max : d.text.size ≤ 140737488351232
  wa : (Lit.int .i64 d.a).wf = true
  wb : (Lit.int .i64 d.b).wf = true
  wc : (Lit.int .i64 d.c).wf = true
  wd : (Lit.int .i64 d.d).wf = true
/-- the script -/
structure ScriptAt (w : World) (a : Option Addr) (n cap : Nat) (D : Nat → Od) : Prop where
  le : n ≤ cap
  max : cap ≤ 140737488351232
  at_ : 0 < n → ∃ b off, a = some ⟨b, off, none⟩ ∧ ∀ i, i < n → OpAt w b (off + i * 6) (D i)

section
variable {H : Type} {enc : TypeId × Value → H} {w : World}
theorem cells3 : Try.prog.cellsOf 3 = 1 := by kernel_rfl
theorem cells9 : Try.prog.cellsOf 9 = 1 := by kernel_rfl
theorem cells26 : Try.prog.cellsOf 26 = 1 := by kernel_rfl
theorem cells28 : Try.prog.cellsOf 28 = 6 := by kernel_rfl
theorem bytes28 : 1 ≤ Try.prog.bytesOf 28 := by
  have : Try.prog.bytesOf 28 = 56 := by kernel_rfl
  rw [this]; omega
theorem reach_eq : reachBytes = 140737488351232 := rfl

/-- every slice in the datum is within the form's own reach -/
def Fits (t : TypeId) (d : DataW H) : Prop := ∀ n ∈ d.weights Try.prog t, n ≤ reachBytes

theorem weightsAll_mem {P : Program} {e : TypeId} : ∀ {l : List (DataW H)} {d : DataW H}, d ∈ l → ∀ n ∈ d.weights P e, n ∈ DataW.weightsAll P e l
  | d' :: r, d, hd, n, hn => by
    simp only [DataW.weightsAll, List.mem_append]
    rcases List.mem_cons.1 hd with rfl | h
    · exact Or.inl hn
    · exact Or.inr (weightsAll_mem h n hn)

/-- a struct's field, whatever its number of cells -/
theorem field_of {t : TypeId} {fs : Array Field} {fuel : Nat} {cs : List Value} {x : DataW H × List MemPlace} (ht : Try.prog.underlying t = some (.struct fs)) (hfit : Fits t x.1) (h : DataW.trod enc Try.prog w 0 (fun _ => true) true fuel t cs = some x)
    (i : Nat) (f : Field) (hf : fs[i]? = some f) : ∃ n y, Fits f.type y.1 ∧ DataW.trod enc Try.prog w 0 (fun _ => true) true n f.type ((cs.drop f.offset).take (Try.prog.cellsOf f.type)) = some y := by
  obtain ⟨xs, n, _, hx, _, hxl, hfs⟩ := DataW.trod_struct ht h
  have hlt : i < fs.size := (Array.getElem?_eq_some_iff.1 hf).1
  refine ⟨n, xs[i]'(by omega), fun k hk => hfit k ?_, by rw [hfs i f hf, List.getElem?_eq_getElem (by omega)]⟩
  rw [hx]
  simp only [DataW.weights, ht]
  refine DataW.weights_mem_each (j := i) (t := f.type) (d := (xs[i]'(by omega)).1) ?_ ?_ k hk
  · simp [hf]
  · simp [List.getElem?_eq_getElem (show i < xs.length by omega)]

theorem field1_of {t : TypeId} {fs : Array Field} {fuel : Nat} {cs : List Value} {x : DataW H × List MemPlace} (ht : Try.prog.underlying t = some (.struct fs)) (hfit : Fits t x.1) (h : DataW.trod enc Try.prog w 0 (fun _ => true) true fuel t cs = some x)
    (i : Nat) (f : Field) (hf : fs[i]? = some f) (h1 : Try.prog.cellsOf f.type = 1) (ho : f.offset < cs.length) : ∃ n y, Fits f.type y.1 ∧ DataW.trod enc Try.prog w 0 (fun _ => true) true n f.type [cs.getD f.offset undef] = some y := by
  obtain ⟨n, y, hft, hy⟩ := field_of ht hfit h i f hf
  rw [h1, Deep.take1_drop cs f.offset undef ho] at hy
  exact ⟨n, y, hft, hy⟩

theorem cells_at {a : Addr} {n : Nat} {cs : List Value} {b off : Nat} (ha : a = ⟨b, off, none⟩) (h : w.cells? 0 a n = some cs) : cs.length = n ∧ ∀ j, j < n → w.cell? ⟨b, off + j, none⟩ = some (cs.getD j undef) := by
  obtain ⟨_, h1, h2⟩ := World.cells?_some h
  refine ⟨h1, fun j hj => ?_⟩
  have := h2 j hj
  rw [ha, Addr.add_lit] at this
  rw [this, List.getElem?_eq_getElem (by omega)]
  simp [List.getD_eq_getElem?_getD, List.getElem?_eq_getElem (show j < cs.length by omega)]

theorem plain_addr {a : Addr} {n k : Nat} {cs : List Value} (hn : 0 < n) (h : w.cells? 0 (a.add (0 * k)) n = some cs) : a.spot = none := by
  obtain ⟨_, h1, h2⟩ := World.cells?_some h
  have h0 := h2 0 hn
  rw [List.getElem?_eq_getElem (by omega)] at h0
  have hs := World.cell?_spot h0
  simpa [Addr.add] using hs

/-- a slice of structs: its address is plain where it has an element -/
theorem open_rows {t e k : Nat} {fuel : Nat} {v : Value} {x : DataW H × List MemPlace} (ht : Try.prog.underlying t = some (.slice e)) (hk : Try.prog.cellsOf e = k) (hk0 : 0 < k) (hby : 1 ≤ Try.prog.bytesOf e) (hfit : Fits t x.1) (h : DataW.trod enc Try.prog w 0 (fun _ => true) true fuel t [v] = some x) :
    ∃ a n cap, v = .slice a n cap ∧ n ≤ cap ∧ cap ≤ 140737488351232 ∧ (0 < n → ∃ b off, a = some ⟨b, off, none⟩ ∧ ∀ i, i < n → ∃ cs fuel' y, w.cells? 0 ⟨b, off + i * k, none⟩ k = some cs ∧ Fits e y.1 ∧ DataW.trod enc Try.prog w 0 (fun _ => true) true fuel' e cs = some y) := by
  rcases Deep.open_slice ht h with ⟨h0, _⟩ | ⟨a, len, cap, m, n, D, Pl, hcs, _, hl, _, hmm, hxx, hx⟩
  · simp at h0
    exact ⟨none, 0, 0, h0, Nat.le_refl _, by simp, fun h => by omega⟩
  · simp at hcs
    simp at hmm
    subst hmm
    have hm : m ≤ 140737488351232 := by
      have := hfit ((((List.range len).map D).length + ((List.range (m - len)).map fun j => D (len + j)).length) * Try.prog.bytesOf e) (by rw [hxx]; simp [DataW.weights, ht])
      simp only [List.length_map, List.length_range, reach_eq] at this
      have h2 := Nat.le_mul_of_pos_right (len + (m - len)) hby
      omega
    refine ⟨some a, len, m, hcs, hl, hm, fun h0 => ?_⟩
    rw [hk] at hx
    obtain ⟨cs0, hc0, _⟩ := hx 0 (by omega)
    have hsp := plain_addr hk0 hc0
    obtain ⟨b, off, spot⟩ := a
    simp only at hsp
    subst hsp
    refine ⟨b, off, rfl, fun i hi => ?_⟩
    obtain ⟨cs, hc, hd⟩ := hx i (by omega)
    rw [Addr.add_lit] at hc
    refine ⟨cs, n, _, hc, fun k hk => hfit k ?_, hd⟩
    rw [hxx]
    simp only [DataW.weights, ht, List.mem_cons, List.mem_append]
    exact Or.inr (Or.inl (weightsAll_mem (List.mem_map.2 ⟨i, List.mem_range.2 hi, rfl⟩) k hk))

theorem open_op {b off fuel : Nat} {cs : List Value} {x : DataW H × List MemPlace} (hc : w.cells? 0 ⟨b, off, none⟩ 6 = some cs) (hfit : Fits 28 x.1) (h : DataW.trod enc Try.prog w 0 (fun _ => true) true fuel 28 cs = some x) : ∃ d : Od, OpAt w b off d := by
  obtain ⟨hl, hcell⟩ := cells_at rfl hc
  obtain ⟨n0, y0, fh0, h0⟩ := field1_of Try.underlying28 hfit h 0 _ rfl cells26 (by rw [hl]; decide)
  obtain ⟨n1, y1, fh1, h1⟩ := field1_of Try.underlying28 hfit h 1 _ rfl cells3 (by rw [hl]; decide)
  obtain ⟨n2, y2, fh2, h2⟩ := field1_of Try.underlying28 hfit h 2 _ rfl cells3 (by rw [hl]; decide)
  obtain ⟨n3, y3, fh3, h3⟩ := field1_of Try.underlying28 hfit h 3 _ rfl cells3 (by rw [hl]; decide)
  obtain ⟨n4, y4, fh4, h4⟩ := field1_of Try.underlying28 hfit h 4 _ rfl cells3 (by rw [hl]; decide)
  obtain ⟨n5, y5, fh5, h5⟩ := field1_of Try.underlying28 hfit h 5 _ rfl cells9 (by rw [hl]; decide)
  obtain ⟨k0, e0, _⟩ := DataW.trod_int Try.underlying26 h0
  obtain ⟨k1, e1, _, w1⟩ := DataW.trod_int Try.underlying3 h1
  obtain ⟨k2, e2, _, w2⟩ := DataW.trod_int Try.underlying3 h2
  obtain ⟨k3, e3, _, w3⟩ := DataW.trod_int Try.underlying3 h3
  obtain ⟨k4, e4, _, w4⟩ := DataW.trod_int Try.underlying3 h4
  obtain ⟨tx, e5, ex5, _⟩ := DataW.trod_string Try.underlying9 h5
  have hmax : tx.size ≤ 140737488351232 := by
    have := fh5 tx.size (by rw [ex5]; simp [DataW.weights])
    rw [reach_eq] at this
    exact this
  have g0 := hcell 0 (by omega)
  have g1 := hcell 1 (by omega)
  have g2 := hcell 2 (by omega)
  have g3 := hcell 3 (by omega)
  have g4 := hcell 4 (by omega)
  have g5 := hcell 5 (by omega)
  rw [show cs.getD 0 undef = _ from (List.cons.inj e0).1] at g0
  rw [show cs.getD 1 undef = _ from (List.cons.inj e1).1] at g1
  rw [show cs.getD 2 undef = _ from (List.cons.inj e2).1] at g2
  rw [show cs.getD 3 undef = _ from (List.cons.inj e3).1] at g3
  rw [show cs.getD 4 undef = _ from (List.cons.inj e4).1] at g4
  rw [show cs.getD 5 undef = _ from (List.cons.inj e5).1] at g5
  exact ⟨⟨k0, k1, k2, k3, k4, tx⟩, ⟨g0, g1, g2, g3, g4, g5, hmax, w1, w2, w3, w4⟩⟩

/-- EVERY ARGUMENT THAT CAN BE READ IS A SCRIPT. -/
theorem open_script {a : Option Addr} {n cap : Nat} {d : DataW H} {ps : List MemPlace} (hfit : Fits 22 d) (h : DataW.Trod enc Try.prog w 0 (fun _ => true) true 22 (.slice a n cap) d ps) : ∃ D, ScriptAt w a n cap D := by
  obtain ⟨fuel, hf⟩ := h
  obtain ⟨a', n', cap', hv, h1, h2, h3⟩ := open_rows (v := .slice a n cap) Try.underlying22 cells28 (by omega) bytes28 hfit hf
  simp only [Value.slice.injEq] at hv
  obtain ⟨rfl, rfl, rfl⟩ := hv
  have d0 : Od := ⟨0, 0, 0, 0, 0, ByteArray.empty⟩
  rcases Nat.eq_zero_or_pos n with h0 | h0
  · exact ⟨fun _ => d0, h1, h2, fun hn => by omega⟩
  · obtain ⟨b, off, rfl, hx⟩ := h3 h0
    obtain ⟨D, hD⟩ := @Deep.choose_lt Od ⟨d0⟩ n (fun i d => OpAt w b (off + i * 6) d) (fun i hi => by
      obtain ⟨cs, fuel', y, hc, hft, hd⟩ := hx i hi
      exact open_op hc hft hd)
    exact ⟨D, h1, h2, fun _ => ⟨b, off, rfl, hD⟩⟩
end

/-! ### zzSmall1 (8) -/
def SmallS (n : Nat) (D : Nat → Od) : Prop := n ≤ 65536 ∧ ∀ i, i < n → (D i).text.size ≤ 65536
def SmallPost (n : Nat) (D : Nat → Od) (w : World) (e : Ending) (w' : World) : Prop := ∃ r : Bool, e = .returned (.bool r) ∧ w' = w ∧ (r = true → SmallS n D)
theorem SmallPost.no (n : Nat) (D : Nat → Od) (w : World) : SmallPost n D w (.returned (.bool false)) w := ⟨false, rfl, rfl, fun h => by cases h⟩
theorem SmallPost.yes {n : Nat} {D : Nat → Od} (w : World) (h : SmallS n D) : SmallPost n D w (.returned (.bool true)) w := ⟨true, rfl, rfl, fun _ => h⟩

set_option maxHeartbeats 400000 in
theorem small_nil (w : World) (a : Option Addr) (cap : Nat) :
    Calls Try.prog 8 #[.slice a 0 cap] w fun e w' => e = .returned (.bool true) ∧ w' = w := by
  go_enter Try.func8, Try.ntmps8
  go_wp2
  refine wp_loop_rounds 1 ?_
  rw [rounds_succ]
  go_wp2
  go_ret
  exact ⟨rfl, rfl⟩

set_option maxHeartbeats 1000000 in
set_option maxRecDepth 100000 in
theorem small_some (w : World) (b off n cap : Nat) (D : Nat → Od) (hn : n ≤ 140737488351232) (hD : ∀ i, i < n → OpAt w b (off + i * 6) (D i)) :
    Calls Try.prog 8 #[.slice (some ⟨b, off, none⟩) n cap] w (SmallPost n D w) := by
  have HD : Hid (∀ i, i < n → OpAt w b (off + i * 6) (D i)) := hD
  clear hD
  by_cases hbig : 65536 < n
  · go_enter Try.func8, Try.ntmps8
    go_wp2
    go_ret
    exact SmallPost.no n D w
  have hd : decide ((65536 : Int) < (n : Int)) = false := by simp; omega
  go_enter Try.func8, Try.ntmps8
  go_wp2
  go_loop [3, 4] (fun m i => ∃ k c : Nat, k ≤ n ∧ i = .int .i64 (k : Int) ∧ m = .int .i64 (c : Int) ∧ c ≤ 65536 ∧ Hid (∀ j, j < k → (D j).text.size ≤ 65536)) (fun _ i => n - (intOf i).toNat)
  case atStart => exact ⟨0, n, Nat.zero_le _, rfl, rfl, by omega, fun j hj => by omega⟩
  case round =>
    obtain ⟨k, c, hk, rfl, rfl, hc, HS⟩ := hrel
    by_cases hlt : k < n
    · have q5 := (HD.out k hlt).c5
      have hdm : (D k).text.size ≤ 140737488351232 := (HD.out k hlt).max
      by_cases hov : 65536 < c + (D k).text.size
      · have hd2 : decide ((65536 : Int) < (c : Int) + ((D k).text.size : Int)) = true := by simp; omega
        go_wp2
        go_ret
        exact SmallPost.no n D w
      · have hd2 : decide ((65536 : Int) < (c : Int) + ((D k).text.size : Int)) = false := by simp; omega
        have HS2 : Hid (∀ j, j < k + 1 → (D j).text.size ≤ 65536) := fun j hj => by
          rcases Nat.lt_or_ge j k with h' | h'
          · exact HS.out j h'
          · have : j = k := by omega
            subst this; omega
        clear HS
        go_wp2
        go_round
        case rel => exact ⟨k + 1, c + (D k).text.size, by omega, by go_num, by go_num, by omega, HS2⟩
        case measure => simp [intOf]; omega
    · have hk0 : k = n := by omega
      have HS1 : Hid (SmallS n D) := by
        subst hk0
        exact ⟨by omega, HS.out⟩
      clear HS hk0
      go_wp2
      go_ret
      exact SmallPost.yes w HS1.out

/-- zzSmall1, at every script. -/
theorem small_any (w : World) (a : Option Addr) (n cap : Nat) (D : Nat → Od) (h : ScriptAt w a n cap D) : Calls Try.prog 8 #[.slice a n cap] w (SmallPost n D w) := by
  rcases Nat.eq_zero_or_pos n with h0 | h0
  · subst h0
    exact (small_nil w a cap).mono fun e w' ⟨h1, h2⟩ => ⟨true, h1, h2, fun _ => ⟨by omega, fun i hi => by omega⟩⟩
  · obtain ⟨b, off, rfl, hD⟩ := h.at_ h0
    exact small_some w b off n cap D (Nat.le_trans h.le h.max) hD
end Go.Proofs.Qxb6500653a
