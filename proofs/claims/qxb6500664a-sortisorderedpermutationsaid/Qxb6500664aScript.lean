/-
  A SCRIPT IN MEMORY: what the walks are told of '[]api.Op' that came in; and that every argument which can be read is one.
-/
import Derived.Test.Qxb6500664aAppend
import Derived.ProofKit
import Derived.ChangeOld
import Derived.Deep.Slices
import Derived.Deep.Fields
import Derived.OpenShut
import Derived.SizedLaws
namespace Go.Proofs.Qxb6500664a
open Go.RowKit Go.ChangeShapes Go.WideShapes

/-- a slice of bytes -/
structure BSl where
  a : Option Addr
  l : List UInt8
  cap : Nat
def BSl.v (s : BSl) : Value := .slice s.a s.l.length s.cap
/-- it lies so in memory -/
structure BSl.At (s : BSl) (w : World) : Prop where
  le : s.l.length ≤ s.cap
  max : s.cap ≤ 140737488351232
  at_ : 0 < s.l.length → ∃ b off, s.a = some ⟨b, off, none⟩ ∧ ∀ j (hj : j < s.l.length), w.cell? ⟨b, off + j, none⟩ = some (.int .u8 (s.l[j].toNat : Int))

structure FD where
  ty : Int
  num : Int
  data : BSl
structure PD where
  key : BSl
  val : BSl
structure OD where
  kind : Int
  ty : Int
  num : Int
  data : BSl
  rkind : Int
  key : BSl
  fa : Option Addr
  fn : Nat
  fcap : Nat
  F : Nat → FD
  pa : Option Addr
  pn : Nat
  pcap : Nat
  P : Nat → PD

structure FieldsAt (w : World) (fa : Option Addr) (fn fcap : Nat) (F : Nat → FD) : Prop where
  le : fn ≤ fcap
  max : fcap ≤ 140737488351232
  at_ : 0 < fn → ∃ b off, fa = some ⟨b, off, none⟩ ∧ ∀ j, j < fn → w.cell? ⟨b, off + j * 3, none⟩ = some (.int .u8 (F j).ty) ∧ w.cell? ⟨b, off + j * 3 + 1, none⟩ = some (.int .u64 (F j).num) ∧
    w.cell? ⟨b, off + j * 3 + 2, none⟩ = some (.slice (F j).data.a (F j).data.l.length (F j).data.cap) ∧ (F j).data.At w

structure PairsAt (w : World) (pa : Option Addr) (pn pcap : Nat) (P : Nat → PD) : Prop where
  le : pn ≤ pcap
  max : pcap ≤ 140737488351232
  at_ : 0 < pn → ∃ b off, pa = some ⟨b, off, none⟩ ∧ ∀ j, j < pn → w.cell? ⟨b, off + j * 2, none⟩ = some (.slice (P j).key.a (P j).key.l.length (P j).key.cap) ∧
    w.cell? ⟨b, off + j * 2 + 1, none⟩ = some (.slice (P j).val.a (P j).val.l.length (P j).val.cap) ∧ (P j).key.At w ∧ (P j).val.At w

/-- one step of the script at block b, cell o -/
structure OpAt (w : World) (b o : Nat) (d : OD) : Prop where
  c0 : w.cell? ⟨b, o, none⟩ = some (.int .u8 d.kind)
  c1 : w.cell? ⟨b, o + 1, none⟩ = some (.int .u8 d.ty)
  c2 : w.cell? ⟨b, o + 2, none⟩ = some (.int .u64 d.num)
  c3 : w.cell? ⟨b, o + 3, none⟩ = some (.slice d.data.a d.data.l.length d.data.cap)
  c4 : w.cell? ⟨b, o + 4, none⟩ = some (.int .u8 d.rkind)
  c5 : w.cell? ⟨b, o + 4 + 1, none⟩ = some (.slice d.key.a d.key.l.length d.key.cap)
  c6 : w.cell? ⟨b, o + 4 + 2, none⟩ = some (.slice d.fa d.fn d.fcap)
  c7 : w.cell? ⟨b, o + 7, none⟩ = some (.slice d.pa d.pn d.pcap)
  data : d.data.At w
  key : d.key.At w
  fs : FieldsAt w d.fa d.fn d.fcap d.F
  ps : PairsAt w d.pa d.pn d.pcap d.P

/-- the script -/
structure ScriptAt (w : World) (a : Option Addr) (n cap : Nat) (D : Nat → OD) : Prop where
  le : n ≤ cap
  max : cap ≤ 140737488351232
  at_ : 0 < n → ∃ b off, a = some ⟨b, off, none⟩ ∧ ∀ i, i < n → OpAt w b (off + i * 8) (D i)

/-! ### Reading it off the form's own reading -/
section
variable {H : Type} {enc : TypeId × Value → H} {w : World}

theorem Try.cells5 : Try.prog.cellsOf 5 = 1 := by kernel_rfl
theorem Try.cells24 : Try.prog.cellsOf 24 = 1 := by kernel_rfl
theorem Try.cells25 : Try.prog.cellsOf 25 = 1 := by kernel_rfl
theorem Try.cells26 : Try.prog.cellsOf 26 = 1 := by kernel_rfl
theorem Try.cells27 : Try.prog.cellsOf 27 = 1 := by kernel_rfl
theorem Try.cells28 : Try.prog.cellsOf 28 = 1 := by kernel_rfl
theorem Try.cells30 : Try.prog.cellsOf 30 = 3 := by kernel_rfl
theorem Try.cells31 : Try.prog.cellsOf 31 = 1 := by kernel_rfl
theorem Try.cells33 : Try.prog.cellsOf 33 = 8 := by kernel_rfl
theorem Try.cells37 : Try.prog.cellsOf 37 = 2 := by kernel_rfl
theorem Try.cells62 : Try.prog.cellsOf 62 = 3 := by kernel_rfl

theorem Try.bytes5 : Try.prog.bytesOf 5 = 1 := by kernel_rfl
theorem Try.bytes33 : Try.prog.bytesOf 33 = 120 := by kernel_rfl
theorem Try.bytes37 : Try.prog.bytesOf 37 = 48 := by kernel_rfl
theorem Try.bytes62 : Try.prog.bytesOf 62 = 40 := by kernel_rfl
theorem reach_eq : reachBytes = 140737488351232 := rfl

/-- every slice in the datum is within the form's own reach -/
def Fits (t : TypeId) (d : DataW H) : Prop := ∀ n ∈ d.weights Try.prog t, n ≤ reachBytes

theorem weightsAll_mem {P : Program} {e : TypeId} : ∀ {l : List (DataW H)} {d : DataW H}, d ∈ l → ∀ n ∈ d.weights P e, n ∈ DataW.weightsAll P e l
  | d' :: r, d, hd, n, hn => by
    simp only [DataW.weightsAll, List.mem_append]
    rcases List.mem_cons.1 hd with rfl | h
    · exact Or.inl hn
    · exact Or.inr (weightsAll_mem h n hn)

theorem byte_of_wf {n : Int} (h : (Lit.int .u8 n).wf = true) : ((UInt8.ofNat n.toNat).toNat : Int) = n := by
  have := bounds_u8 h
  rw [UInt8.toNat_ofNat']
  omega

theorem open_bytes {fuel : Nat} {v : Value} {x : DataW H × List MemPlace} (hfit : Fits 27 x.1) (h : DataW.trod enc Try.prog w 0 (fun _ => true) true fuel 27 [v] = some x) : ∃ s : BSl, v = .slice s.a s.l.length s.cap ∧ s.At w := by
  rcases open_ints Try.underlying27 Try.underlying5 Try.cells5 h with ⟨hcs, _⟩ | ⟨a, len, cap, zs, hcs, _, hl, _, hz, hx, hcell, hwz⟩
  · simp at hcs
    subst hcs
    exact ⟨⟨none, [], 0⟩, rfl, ⟨Nat.le_refl _, by simp, fun h => by simp at h⟩⟩
  · simp at hcs
    subst hcs
    simp at hz
    have hm : cap ≤ 140737488351232 := by
      have := hfit ((lits (H := H) .u8 (zs.take len)).length + (lits (H := H) .u8 (zs.drop len)).length |> (· * Try.prog.bytesOf 5)) (by rw [hx]; simp [DataW.weights, Try.underlying27])
      simp only [lits, List.length_map, List.length_take, List.length_drop, Try.bytes5, reach_eq] at this
      omega
    refine ⟨⟨some a, (zs.take len).map (fun z => UInt8.ofNat z.toNat), cap⟩, by simp; omega, ⟨by simp; omega, hm, fun h => ?_⟩⟩
    obtain ⟨b, off, spot⟩ := a
    simp at h
    have h0 := hcell 0 (by omega)
    have hspot : spot = none := by simpa [Addr.add] using World.cell?_spot h0
    subst hspot
    refine ⟨b, off, rfl, fun j hj => ?_⟩
    simp at hj
    have := hcell j (by omega)
    rw [Addr.add_lit] at this
    rw [this]
    simp only [List.getElem_map, List.getElem_take]
    rw [byte_of_wf (hwz _ (List.getElem_mem _))]
    simp [List.getD_eq_getElem?_getD, List.getElem?_eq_getElem (show j < zs.length by omega)]

/-- a struct's field, whatever its number of cells -/
theorem field_of {t : TypeId} {fs : Array Field} {fuel : Nat} {cs : List Value} {x : DataW H × List MemPlace} (ht : Try.prog.underlying t = some (.struct fs)) (hfit : Fits t x.1) (h : DataW.trod enc Try.prog w 0 (fun _ => true) true fuel t cs = some x)
    (i : Nat) (f : Field) (hf : fs[i]? = some f) : ∃ n y, Fits f.type y.1 ∧ DataW.trod enc Try.prog w 0 (fun _ => true) true n f.type ((cs.drop f.offset).take (Try.prog.cellsOf f.type)) = some y := by
  obtain ⟨xs, n, _, hx, _, hxl, hfs⟩ := DataW.trod_struct ht h
  have hlt : i < fs.size := (Array.getElem?_eq_some_iff.1 hf).1
  refine ⟨n, xs[i]'(by omega), fun k hk => hfit k ?_, by rw [hfs i f hf, List.getElem?_eq_getElem (by omega)]⟩
  rw [hx]
  simp only [DataW.weights, ht]
  refine DataW.weights_mem_each (j := i) (t := f.type) (d := (xs[i]'(by omega)).1) ?_ ?_ k hk
  · simp [hf]
  · simp [List.getElem?_eq_getElem (show i < xs.length by omega)]

theorem field1_of {t : TypeId} {fs : Array Field} {fuel : Nat} {cs : List Value} {x : DataW H × List MemPlace} (ht : Try.prog.underlying t = some (.struct fs)) (hfit : Fits t x.1) (h : DataW.trod enc Try.prog w 0 (fun _ => true) true fuel t cs = some x)
    (i : Nat) (f : Field) (hf : fs[i]? = some f) (h1 : Try.prog.cellsOf f.type = 1) (ho : f.offset < cs.length) : ∃ n y, Fits f.type y.1 ∧ DataW.trod enc Try.prog w 0 (fun _ => true) true n f.type [cs.getD f.offset undef] = some y := by
  obtain ⟨n, y, hft, hy⟩ := field_of ht hfit h i f hf
  rw [h1, Deep.take1_drop cs f.offset undef ho] at hy
  exact ⟨n, y, hft, hy⟩

theorem cells_at {a : Addr} {n : Nat} {cs : List Value} {b off : Nat} (ha : a = ⟨b, off, none⟩) (h : w.cells? 0 a n = some cs) : cs.length = n ∧ ∀ j, j < n → w.cell? ⟨b, off + j, none⟩ = some (cs.getD j undef) := by
  obtain ⟨_, h1, h2⟩ := World.cells?_some h
  refine ⟨h1, fun j hj => ?_⟩
  have := h2 j hj
  rw [ha, Addr.add_lit] at this
  rw [this, List.getElem?_eq_getElem (by omega)]
  simp [List.getD_eq_getElem?_getD, List.getElem?_eq_getElem (show j < cs.length by omega)]

theorem plain_addr {a : Addr} {n k : Nat} {cs : List Value} (hn : 0 < n) (h : w.cells? 0 (a.add (0 * k)) n = some cs) : a.spot = none := by
  obtain ⟨_, h1, h2⟩ := World.cells?_some h
  have h0 := h2 0 hn
  rw [List.getElem?_eq_getElem (by omega)] at h0
  have hs := World.cell?_spot h0
  simpa [Addr.add] using hs

theorem open_field {b off fuel : Nat} {cs : List Value} {x : DataW H × List MemPlace} (hc : w.cells? 0 ⟨b, off, none⟩ 3 = some cs) (hfit : Fits 62 x.1) (h : DataW.trod enc Try.prog w 0 (fun _ => true) true fuel 62 cs = some x) :
    ∃ f : FD, w.cell? ⟨b, off, none⟩ = some (.int .u8 f.ty) ∧ w.cell? ⟨b, off + 1, none⟩ = some (.int .u64 f.num) ∧ w.cell? ⟨b, off + 2, none⟩ = some (.slice f.data.a f.data.l.length f.data.cap) ∧ f.data.At w := by
  obtain ⟨hl, hcell⟩ := cells_at rfl hc
  obtain ⟨n0, y0, fh0, h0⟩ := field1_of Try.underlying62 hfit h 0 _ rfl Try.cells25 (by rw [hl]; decide)
  obtain ⟨n1, y1, fh1, h1⟩ := field1_of Try.underlying62 hfit h 1 _ rfl Try.cells26 (by rw [hl]; decide)
  obtain ⟨n2, y2, fh2, h2⟩ := field1_of Try.underlying62 hfit h 2 _ rfl Try.cells27 (by rw [hl]; decide)
  obtain ⟨z0, e0, _⟩ := DataW.trod_int Try.underlying25 h0
  obtain ⟨z1, e1, _⟩ := DataW.trod_int Try.underlying26 h1
  obtain ⟨s, e2, hs⟩ := open_bytes fh2 h2
  have g0 := hcell 0 (by omega)
  have g1 := hcell 1 (by omega)
  have g2 := hcell 2 (by omega)
  rw [show cs.getD 0 undef = _ from (List.cons.inj e0).1] at g0
  rw [show cs.getD 1 undef = _ from (List.cons.inj e1).1] at g1
  rw [show cs.getD 2 undef = _ from e2] at g2
  exact ⟨⟨z0, z1, s⟩, g0, g1, g2, hs⟩

theorem open_pair {b off fuel : Nat} {cs : List Value} {x : DataW H × List MemPlace} (hc : w.cells? 0 ⟨b, off, none⟩ 2 = some cs) (hfit : Fits 37 x.1) (h : DataW.trod enc Try.prog w 0 (fun _ => true) true fuel 37 cs = some x) :
    ∃ f : PD, w.cell? ⟨b, off, none⟩ = some (.slice f.key.a f.key.l.length f.key.cap) ∧ w.cell? ⟨b, off + 1, none⟩ = some (.slice f.val.a f.val.l.length f.val.cap) ∧ f.key.At w ∧ f.val.At w := by
  obtain ⟨hl, hcell⟩ := cells_at rfl hc
  obtain ⟨n0, y0, fh0, h0⟩ := field1_of Try.underlying37 hfit h 0 _ rfl Try.cells27 (by rw [hl]; decide)
  obtain ⟨n1, y1, fh1, h1⟩ := field1_of Try.underlying37 hfit h 1 _ rfl Try.cells27 (by rw [hl]; decide)
  obtain ⟨s0, e0, hs0⟩ := open_bytes fh0 h0
  obtain ⟨s1, e1, hs1⟩ := open_bytes fh1 h1
  have g0 := hcell 0 (by omega)
  have g1 := hcell 1 (by omega)
  rw [show cs.getD 0 undef = _ from e0] at g0
  rw [show cs.getD 1 undef = _ from e1] at g1
  exact ⟨⟨s0, s1⟩, g0, g1, hs0, hs1⟩

/-- a slice of structs: its address is plain where it has an element -/
theorem open_rows {t e k : Nat} {fuel : Nat} {v : Value} {x : DataW H × List MemPlace} (ht : Try.prog.underlying t = some (.slice e)) (hk : Try.prog.cellsOf e = k) (hk0 : 0 < k) (hby : 1 ≤ Try.prog.bytesOf e) (hfit : Fits t x.1) (h : DataW.trod enc Try.prog w 0 (fun _ => true) true fuel t [v] = some x) :
    ∃ a n cap, v = .slice a n cap ∧ n ≤ cap ∧ cap ≤ 140737488351232 ∧ (0 < n → ∃ b off, a = some ⟨b, off, none⟩ ∧ ∀ i, i < n → ∃ cs fuel' y, w.cells? 0 ⟨b, off + i * k, none⟩ k = some cs ∧ Fits e y.1 ∧ DataW.trod enc Try.prog w 0 (fun _ => true) true fuel' e cs = some y) := by
  rcases Deep.open_slice ht h with ⟨h0, _⟩ | ⟨a, len, cap, m, n, D, Pl, hcs, _, hl, _, hmm, hxx, hx⟩
  · simp at h0
    exact ⟨none, 0, 0, h0, Nat.le_refl _, by simp, fun h => by omega⟩
  · simp at hcs
    simp at hmm
    subst hmm
    have hm : m ≤ 140737488351232 := by
      have := hfit ((((List.range len).map D).length + ((List.range (m - len)).map fun j => D (len + j)).length) * Try.prog.bytesOf e) (by rw [hxx]; simp [DataW.weights, ht])
      simp only [List.length_map, List.length_range, reach_eq] at this
      have h2 := Nat.le_mul_of_pos_right (len + (m - len)) hby
      omega
    refine ⟨some a, len, m, hcs, hl, hm, fun h0 => ?_⟩
    rw [hk] at hx
    obtain ⟨cs0, hc0, _⟩ := hx 0 (by omega)
    have hsp := plain_addr hk0 hc0
    obtain ⟨b, off, spot⟩ := a
    simp only at hsp
    subst hsp
    refine ⟨b, off, rfl, fun i hi => ?_⟩
    obtain ⟨cs, hc, hd⟩ := hx i (by omega)
    rw [Addr.add_lit] at hc
    refine ⟨cs, n, _, hc, fun k hk => hfit k ?_, hd⟩
    rw [hxx]
    simp only [DataW.weights, ht, List.mem_cons, List.mem_append]
    exact Or.inr (Or.inl (weightsAll_mem (List.mem_map.2 ⟨i, List.mem_range.2 hi, rfl⟩) k hk))

theorem open_fields {fuel : Nat} {v : Value} {x : DataW H × List MemPlace} (hfit : Fits 28 x.1) (h : DataW.trod enc Try.prog w 0 (fun _ => true) true fuel 28 [v] = some x) : ∃ a n cap F, v = .slice a n cap ∧ FieldsAt w a n cap F := by
  obtain ⟨a, n, cap, hv, h1, h2, h3⟩ := open_rows Try.underlying28 Try.cells62 (by omega) (by rw [Try.bytes62]; omega) hfit h
  rcases Nat.eq_zero_or_pos n with h0 | h0
  · exact ⟨a, n, cap, fun _ => ⟨0, 0, ⟨none, [], 0⟩⟩, hv, h1, h2, fun hn => by omega⟩
  · obtain ⟨b, off, rfl, hx⟩ := h3 h0
    obtain ⟨F, hF⟩ := @Deep.choose_lt FD ⟨⟨0, 0, ⟨none, [], 0⟩⟩⟩ n (fun i f => w.cell? ⟨b, off + i * 3, none⟩ = some (.int .u8 f.ty) ∧ w.cell? ⟨b, off + i * 3 + 1, none⟩ = some (.int .u64 f.num) ∧ w.cell? ⟨b, off + i * 3 + 2, none⟩ = some (.slice f.data.a f.data.l.length f.data.cap) ∧ f.data.At w) (fun i hi => by
      obtain ⟨cs, fuel', y, hc, hft, hd⟩ := hx i hi
      exact open_field hc hft hd)
    exact ⟨_, n, cap, F, hv, h1, h2, fun _ => ⟨b, off, rfl, hF⟩⟩

theorem open_pairs {fuel : Nat} {v : Value} {x : DataW H × List MemPlace} (hfit : Fits 31 x.1) (h : DataW.trod enc Try.prog w 0 (fun _ => true) true fuel 31 [v] = some x) : ∃ a n cap P, v = .slice a n cap ∧ PairsAt w a n cap P := by
  obtain ⟨a, n, cap, hv, h1, h2, h3⟩ := open_rows Try.underlying31 Try.cells37 (by omega) (by rw [Try.bytes37]; omega) hfit h
  rcases Nat.eq_zero_or_pos n with h0 | h0
  · exact ⟨a, n, cap, fun _ => ⟨⟨none, [], 0⟩, ⟨none, [], 0⟩⟩, hv, h1, h2, fun hn => by omega⟩
  · obtain ⟨b, off, rfl, hx⟩ := h3 h0
    obtain ⟨P, hP⟩ := @Deep.choose_lt PD ⟨⟨⟨none, [], 0⟩, ⟨none, [], 0⟩⟩⟩ n (fun i f => w.cell? ⟨b, off + i * 2, none⟩ = some (.slice f.key.a f.key.l.length f.key.cap) ∧ w.cell? ⟨b, off + i * 2 + 1, none⟩ = some (.slice f.val.a f.val.l.length f.val.cap) ∧ f.key.At w ∧ f.val.At w) (fun i hi => by
      obtain ⟨cs, fuel', y, hc, hft, hd⟩ := hx i hi
      exact open_pair hc hft hd)
    exact ⟨_, n, cap, P, hv, h1, h2, fun _ => ⟨b, off, rfl, hP⟩⟩

theorem open_op {b off fuel : Nat} {cs : List Value} {x : DataW H × List MemPlace} (hc : w.cells? 0 ⟨b, off, none⟩ 8 = some cs) (hfit : Fits 33 x.1) (h : DataW.trod enc Try.prog w 0 (fun _ => true) true fuel 33 cs = some x) : ∃ d : OD, OpAt w b off d := by
  obtain ⟨hl, hcell⟩ := cells_at rfl hc
  obtain ⟨n0, y0, fh0, h0⟩ := field1_of Try.underlying33 hfit h 0 _ rfl Try.cells24 (by rw [hl]; decide)
  obtain ⟨n1, y1, fh1, h1⟩ := field1_of Try.underlying33 hfit h 1 _ rfl Try.cells25 (by rw [hl]; decide)
  obtain ⟨n2, y2, fh2, h2⟩ := field1_of Try.underlying33 hfit h 2 _ rfl Try.cells26 (by rw [hl]; decide)
  obtain ⟨n3, y3, fh3, h3⟩ := field1_of Try.underlying33 hfit h 3 _ rfl Try.cells27 (by rw [hl]; decide)
  obtain ⟨n4, y4, fh4, h4⟩ := field_of Try.underlying33 hfit h 4 _ rfl
  obtain ⟨n5, y5, fh5, h5⟩ := field1_of Try.underlying33 hfit h 5 _ rfl Try.cells31 (by rw [hl]; decide)
  replace h4 : DataW.trod enc Try.prog w 0 (fun _ => true) true n4 30 ((cs.drop 4).take (Try.prog.cellsOf 30)) = some y4 := h4
  have hl4 : ((cs.drop 4).take (Try.prog.cellsOf 30)).length = 3 := by rw [Try.cells30]; simp; omega
  obtain ⟨m0, z0, fr0, r0⟩ := field1_of Try.underlying30 fh4 h4 0 _ rfl Try.cells5 (by rw [hl4]; decide)
  obtain ⟨m1, z1, fr1, r1⟩ := field1_of Try.underlying30 fh4 h4 1 _ rfl Try.cells27 (by rw [hl4]; decide)
  obtain ⟨m2, z2, fr2, r2⟩ := field1_of Try.underlying30 fh4 h4 2 _ rfl Try.cells28 (by rw [hl4]; decide)
  have hg : ∀ j, j < 3 → ((cs.drop 4).take (Try.prog.cellsOf 30)).getD j undef = cs.getD (4 + j) undef := by
    intro j hj
    rw [Try.cells30]
    simp only [List.getD_eq_getElem?_getD, List.getElem?_take, List.getElem?_drop, if_pos hj]
  obtain ⟨k0, e0, _⟩ := DataW.trod_int Try.underlying24 h0
  obtain ⟨k1, e1, _⟩ := DataW.trod_int Try.underlying25 h1
  obtain ⟨k2, e2, _⟩ := DataW.trod_int Try.underlying26 h2
  obtain ⟨s3, e3, hs3⟩ := open_bytes fh3 h3
  obtain ⟨k4, e4, _⟩ := DataW.trod_int Try.underlying5 r0
  obtain ⟨s5, e5, hs5⟩ := open_bytes fr1 r1
  obtain ⟨fa, fn, fcap, F, e6, hF⟩ := open_fields fr2 r2
  obtain ⟨pa, pn, pcap, P, e7, hP⟩ := open_pairs fh5 h5
  have g0 := hcell 0 (by omega)
  have g1 := hcell 1 (by omega)
  have g2 := hcell 2 (by omega)
  have g3 := hcell 3 (by omega)
  have g4 := hcell 4 (by omega)
  have g5 := hcell 5 (by omega)
  have g6 := hcell 6 (by omega)
  have g7 := hcell 7 (by omega)
  rw [show cs.getD 0 undef = _ from (List.cons.inj e0).1] at g0
  rw [show cs.getD 1 undef = _ from (List.cons.inj e1).1] at g1
  rw [show cs.getD 2 undef = _ from (List.cons.inj e2).1] at g2
  rw [show cs.getD 3 undef = _ from e3] at g3
  rw [show cs.getD 4 undef = _ from (hg 0 (by omega)).symm.trans (List.cons.inj e4).1] at g4
  rw [show cs.getD 5 undef = _ from (hg 1 (by omega)).symm.trans e5] at g5
  rw [show cs.getD 6 undef = _ from (hg 2 (by omega)).symm.trans e6] at g6
  rw [show cs.getD 7 undef = _ from e7] at g7
  exact ⟨⟨k0, k1, k2, s3, k4, s5, fa, fn, fcap, F, pa, pn, pcap, P⟩, ⟨g0, g1, g2, g3, g4, g5, g6, g7, hs3, hs5, hF, hP⟩⟩

/-- EVERY ARGUMENT THAT CAN BE READ IS A SCRIPT. -/
theorem open_script {a : Option Addr} {n cap : Nat} {d : DataW H} {ps : List MemPlace} (hfit : Fits 22 d) (h : DataW.Trod enc Try.prog w 0 (fun _ => true) true 22 (.slice a n cap) d ps) : ∃ D, ScriptAt w a n cap D := by
  obtain ⟨fuel, hf⟩ := h
  obtain ⟨a', n', cap', hv, h1, h2, h3⟩ := open_rows (v := .slice a n cap) Try.underlying22 Try.cells33 (by omega) (by rw [Try.bytes33]; omega) hfit hf
  simp only [Value.slice.injEq] at hv
  obtain ⟨rfl, rfl, rfl⟩ := hv
  have d0 : OD := ⟨0, 0, 0, ⟨none, [], 0⟩, 0, ⟨none, [], 0⟩, none, 0, 0, fun _ => ⟨0, 0, ⟨none, [], 0⟩⟩, none, 0, 0, fun _ => ⟨⟨none, [], 0⟩, ⟨none, [], 0⟩⟩⟩
  rcases Nat.eq_zero_or_pos n with h0 | h0
  · exact ⟨fun _ => d0, h1, h2, fun hn => by omega⟩
  · obtain ⟨b, off, rfl, hx⟩ := h3 h0
    obtain ⟨D, hD⟩ := @Deep.choose_lt OD ⟨d0⟩ n (fun i d => OpAt w b (off + i * 8) d) (fun i hi => by
      obtain ⟨cs, fuel', y, hc, hft, hd⟩ := hx i hi
      exact open_op hc hft hd)
    exact ⟨D, h1, h2, fun _ => ⟨b, off, rfl, hD⟩⟩
end
end Go.Proofs.Qxb6500664a
