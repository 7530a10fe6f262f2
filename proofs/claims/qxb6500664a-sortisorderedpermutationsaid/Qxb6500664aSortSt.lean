/-
  THE SORT's STATES: between two passes, and within one; a copy of elements of any size.
-/
import Derived.Test.Qxb6500664aMrgB
import Derived.Test.Qxb6500664aMrgP
import Derived.Test.Qxb6500664aRuns
import Derived.Laws.CopyOwn
import Derived.RegionTactic
import Derived.BigRegion
namespace Go.Proofs.Qxb6500664a
open Go.RowKit

theorem env_drew {B : Nat} {w0 w : World} (h : Below B w0 w) : Below B w0 w.drew := ⟨h.os, h.tape, h.output, h.size, h.block⟩
theorem grown_of_drew {w w1 : World} {r : Option Nat} (h : w.drew.grownBy w1 r) : w.grownBy w1 r := ⟨h.os, h.tape, h.output, h.size, h.block⟩

/-- what a sort leaves -/
def SortPost (ty : TypeId) (ev : Nat → List Value) (K : Nat → BSl) (w : World) (g : Nat) (p0 : List Nat) (e : Ending) (w' : World) : Prop :=
  e = .returned (.tuple #[]) ∧ ∃ p, p.Perm p0 ∧ Ord.Srt (keysOf K) p ∧ RowAt ty ev w' g p ∧ w.grownBy w' (some g)

/-- ahead of a pass: sb: the block that is read, db: the one that is written -/
structure PassSt (ty : TypeId) (ev : Nat → List Value) (sz : Nat) (K : Nat → BSl) (W0 w wr : World) (p0 p : List Nat) (n g d wd : Nat) (ip : Bool) (sb db : Nat) : Prop where
  runs : Ord.Runs (keysOf K) p0 p wd
  len : p.length = n
  src : RowAt ty ev wr sb p
  dst : ∃ Z, RowPart ty ev wr db [] Z ∧ Z.length = n * sz
  ips : (ip = true ∧ sb = g ∧ db = d) ∨ (ip = false ∧ sb = d ∧ db = g)
  ne : sb ≠ db
  gr : w.grownBy wr (some g)
  env : Below W0.heap.size W0 wr
  low : W0.heap.size ≤ db
  new : db = g ∨ w.heap.size ≤ db
/-- within a pass: A is merged -/
structure InnSt (ty : TypeId) (ev : Nat → List Value) (sz : Nat) (K : Nat → BSl) (W0 w wr : World) (p0 p A : List Nat) (n g wd Lo c sb db : Nat) : Prop where
  lo : Lo = c * (2 * wd)
  la : A.length = min Lo n
  runs : Ord.Runs (keysOf K) p0 A (2 * wd)
  src : RowAt ty ev wr sb p
  dst : ∃ Z, RowPart ty ev wr db A Z ∧ Z.length = (n - A.length) * sz
  gr : w.grownBy wr (some g)
  env : Below W0.heap.size W0 wr

theorem PassSt.inn {ty : TypeId} {ev : Nat → List Value} {sz : Nat} {K : Nat → BSl} {W0 w wr : World} {p0 p : List Nat} {n g d wd : Nat} {ip : Bool} {sb db : Nat} (h : PassSt ty ev sz K W0 w wr p0 p n g d wd ip sb db) :
    InnSt ty ev sz K W0 w wr p0 p [] n g wd 0 0 sb db := by
  obtain ⟨Z, h1, h2⟩ := h.dst
  exact ⟨by simp, by simp, Ord.Runs.nil _ _ _, h.src, ⟨Z, h1, by simpa using h2⟩, h.gr, h.env⟩

theorem grown_new {w wr w1 : World} {g db : Nat} (h : w.grownBy wr (some g)) (h1 : wr.grownBy w1 (some db)) (hn : db = g ∨ w.heap.size ≤ db) : w.grownBy w1 (some g) := by
  rcases hn with rfl | hn
  · exact grown_trans h h1
  · exact ⟨h1.os.trans h.os, h1.tape.trans h.tape, h1.output.trans h.output, Nat.le_trans h.size h1.size, fun k hk hr => (h1.block k (Nat.lt_of_lt_of_le hk h.size) (fun e => by have := Option.some.inj e; omega)).trans (h.block k hk hr)⟩

theorem InnSt.step {ty : TypeId} {ev : Nat → List Value} {sz : Nat} {K : Nat → BSl} {W0 w wr w1 : World} {p0 p A : List Nat} {n g d wd Lo c sb db : Nat} {ip : Bool} {wp : World} (hps : PassSt ty ev sz K W0 w wp p0 p n g d wd ip sb db)
    (h : InnSt ty ev sz K W0 w wr p0 p A n g wd Lo c sb db) (hp0 : p0.length = n) (hinc : p0.Pairwise (· < ·)) (hlt : Lo < n) {Z Z' : List Value} {o : List Nat} {nz : Nat}
    (hZ : Z.length = (n - A.length) * sz) (hnz : nz = (Ord.sg p Lo wd).length + (Ord.sg p (Lo + wd) wd).length) (ho : o.Perm (Ord.sg p Lo wd ++ Ord.sg p (Lo + wd) wd)) (hs : Ord.Srt (keysOf K) o)
    (hd : RowPart ty ev w1 db (A ++ o) Z') (hZ' : Z' = Z.drop (nz * sz)) (hg : wr.grownBy w1 (some db)) : InnSt ty ev sz K W0 w w1 p0 p (A ++ o) n g wd (Lo + 2 * wd) (c + 1) sb db := by
  have hAl : A.length = Lo := by have := h.la; omega
  have hlo := h.lo
  have hl := hps.len
  have h2 := hps.runs.two (c := c) _ hinc (by rw [hl, hp0]) (by rw [← hlo, hl]; exact hlt)
  rw [← hlo] at h2
  have hol : o.length = min (2 * wd) (n - Lo) := by
    have := (h2.2.2.2 o ho).length_eq
    rw [Ord.sg_len, hp0] at this
    exact this
  have hol2 : o.length = nz := by rw [ho.length_eq, List.length_append, hnz]
  refine ⟨by rw [hlo, Nat.add_mul, Nat.one_mul], ?_, ?_, h.src.other hg hps.ne, ⟨Z', hd, ?_⟩, grown_new h.gr hg hps.new, h.env.grown hg h.env.size (fun k hk => by rw [← Option.some.inj hk]; exact hps.low)⟩
  · rw [List.length_append, hAl, hol]; omega
  · exact h.runs.snoc (c := c) _ (by rw [hAl, hlo]) hs (by rw [← hlo]; exact h2.2.2.2 o ho)
  · rw [hZ', List.length_drop, hZ, List.length_append, hol2, ← Nat.sub_mul]
    congr 1; omega

/-- behind a pass: the two blocks change places -/
theorem InnSt.swap {ty : TypeId} {ev : Nat → List Value} {sz : Nat} (hev : ∀ t, (ev t).length = sz) {K : Nat → BSl} {W0 w wr wp : World} {p0 p A : List Nat} {n g d wd Lo c sb db : Nat} {ip : Bool} (hps : PassSt ty ev sz K W0 w wp p0 p n g d wd ip sb db)
    (h : InnSt ty ev sz K W0 w wr p0 p A n g wd Lo c sb db) (hge : n ≤ Lo) (hg0 : W0.heap.size ≤ g) (hd0 : W0.heap.size ≤ d) (hdw : w.heap.size ≤ d) : PassSt ty ev sz K W0 w wr p0 A n g d (2 * wd) (!ip) db sb := by
  have hAl : A.length = n := by have := h.la; omega
  obtain ⟨Z, h1, h2⟩ := h.dst
  rw [hAl, Nat.sub_self, Nat.zero_mul] at h2
  have hz := List.eq_nil_of_length_eq_zero h2
  subst hz
  refine ⟨h.runs, hAl, h1.row, ⟨p.flatMap ev, RowAt.part (A := []) h.src, by rw [flat_len hev, hps.len]⟩, ?_, fun e => hps.ne e.symm, h.gr, h.env, ?_, ?_⟩
  · rcases hps.ips with ⟨rfl, rfl, rfl⟩ | ⟨rfl, rfl, rfl⟩
    · exact Or.inr ⟨rfl, rfl, rfl⟩
    · exact Or.inl ⟨rfl, rfl, rfl⟩
  · rcases hps.ips with ⟨_, rfl, _⟩ | ⟨_, rfl, _⟩
    · exact hg0
    · exact hd0
  · rcases hps.ips with ⟨_, rfl, _⟩ | ⟨_, rfl, _⟩
    · exact Or.inl rfl
    · exact Or.inr hdw

/-- what is known of the two runs that are merged next -/
theorem PassSt.next {ty : TypeId} {ev : Nat → List Value} {sz : Nat} {K : Nat → BSl} {W0 w wr : World} {p0 p : List Nat} {n g d wd Lo c : Nat} {ip : Bool} {sb db : Nat} (h : PassSt ty ev sz K W0 w wr p0 p n g d wd ip sb db) (hp0 : p0.length = n) (hinc : p0.Pairwise (· < ·)) (hlo : Lo = c * (2 * wd)) (hlt : Lo < n) (hK : ∀ t ∈ p0, (K t).At W0) :
    Ord.Srt (keysOf K) (Ord.sg p Lo wd) ∧ Ord.Srt (keysOf K) (Ord.sg p (Lo + wd) wd) ∧ (∀ a ∈ Ord.sg p Lo wd, ∀ b ∈ Ord.sg p (Lo + wd) wd, a < b) ∧ (∀ t ∈ Ord.sg p Lo wd, (K t).At W0) ∧ (∀ t ∈ Ord.sg p (Lo + wd) wd, (K t).At W0) ∧
      (Ord.sg p Lo wd).length = min wd (n - Lo) ∧ (Ord.sg p (Lo + wd) wd).length = min wd (n - (Lo + wd)) ∧ p = p.take Lo ++ (Ord.sg p Lo wd ++ (Ord.sg p (Lo + wd) wd ++ p.drop (Lo + wd + wd))) ∧ (p.take Lo).length = Lo := by
  have hl := h.len
  have h2 := h.runs.two (c := c) _ hinc (by rw [hl, hp0]) (by rw [← hlo, hl]; exact hlt)
  rw [← hlo] at h2
  have hsub := (h2.2.2.2 _ (List.Perm.refl _)).subset
  have hin : ∀ t ∈ Ord.sg p0 Lo (2 * wd), t ∈ p0 := fun t ht => List.drop_subset _ _ (List.take_subset _ _ ht)
  refine ⟨h2.1, h2.2.1, h2.2.2.1, fun t ht => hK t (hin t (hsub (List.mem_append_left _ ht))), fun t ht => hK t (hin t (hsub (List.mem_append_right _ ht))), by rw [Ord.sg_len, hl], by rw [Ord.sg_len, hl], ?_, by simp; omega⟩
  rw [← Ord.sg_split, ← Ord.sg_split, List.take_append_drop]

/-- copy(dst, src), both whole rows of the same length, elements of any size -/
theorem run_copy_rows (P : Program) (w : World) (dT sT ty elem : TypeId) (g sb n dCap sCap sz : Nat) (cur : Array Value) (t : TypeId) (cs : List Value)
    (hu : P.underlying dT = some (.slice elem)) (hs : (P.info? elem).map (·.size) = some sz)
    (hg : w.heap[g]? = some (.cells cur t (0, 0))) (hn : cs.length = n * sz)
    (hsrc : ∀ j v, cs[j]? = some v → w.cell? ((⟨sb, 0, none⟩ : Addr).add j) = some v) (hfit : cs.length = cur.size) (h1 : ∀ v ∈ cs, v.oneCell' = true) :
    (Builtin.copy_ #[dT, sT] ty #[.slice (some ⟨g, 0, none⟩) n dCap, .slice (some ⟨sb, 0, none⟩) n sCap]).run P w = .ok (goInt n) (w.setRow g cs.toArray) := by
  have hl := run_loadCells_list (P := P) w ⟨sb, 0, none⟩ cs hsrc
  have hst := run_storeCells_at P g 0 t cs 0 cur w hg (by omega) h1
  have e0 : cur.toList.drop (0 + 0 + cs.length) = [] := by rw [List.drop_of_length_le (by simp; omega)]
  rw [e0] at hst
  cases hq : P.info? elem with
  | none => simp [hq] at hs
  | some i =>
    have hi : i.size = sz := by simpa [hq] using hs
    simp only [Nat.add_zero, List.take_zero, List.nil_append, List.append_nil] at hst
    simp [Builtin.copy_, run_underlying hu, Builtin.lenOf, Builtin.firstCells, sizeOf, typeInfo, hq, hi, ← hn, hl, hst]

theorem wpList_copy_rows {P : Program} {w : World} {ops : Array Oper} {rest : List Oper} {o : Oper} {a : Act} {Q : Exit → Act → World → Prop} (hgd : o.guard = none) (d s : Operand) (dT sT : TypeId)
    (ho : o.op = .call { callee := .builtin .copy, args := #[d, s], argTypes := #[dT, sT] }) (elem : TypeId) (hu : P.underlying dT = some (.slice elem)) (sz : Nat) (hsz : (P.info? elem).map (·.size) = some sz)
    (g sb n dCap sCap : Nat) (hd : a.eval d = .slice (some ⟨g, 0, none⟩) n dCap) (hs : a.eval s = .slice (some ⟨sb, 0, none⟩) n sCap)
    (cur : Array Value) (t : TypeId) (hg : w.heap[g]? = some (.cells cur t (0, 0))) (cs : List Value) (hn : cs.length = n * sz)
    (hsrc : ∀ j v, cs[j]? = some v → w.cell? ((⟨sb, 0, none⟩ : Addr).add j) = some v) (hfit : cs.length = cur.size) (h1 : ∀ v ∈ cs, v.oneCell' = true)
    (h : wpList P ops Q rest (a.put o.dst (goInt n)) (w.setRow g cs.toArray)) : wpList P ops Q (o :: rest) a w := by
  refine wpList_plain hgd fun K hK => ?_
  have hrun := run_copy_rows P w dT sT o.type elem g sb n dCap sCap sz cur t cs hu hsz hg hn hsrc hfit h1
  unfold Oper.wp
  simp [execOp, ho, resolve, invoke, builtin, hd, hs, hrun, Result.andThen]
  exact hK _ _ h

/-- the last pass ended in the other block: its row is laid over the given one -/
theorem PassSt.copied {ty : TypeId} {ev : Nat → List Value} {sz : Nat} {K : Nat → BSl} {W0 w wr : World} {p0 p : List Nat} {n g d wd : Nat} {sb db : Nat} (h : PassSt ty ev sz K W0 w wr p0 p n g d wd false sb db) (hp0 : p0.length = n) (hw : n ≤ wd) :
    SortPost ty ev K w g p0 (.returned (.tuple #[])) (wr.setRow g (p.flatMap ev).toArray) := by
  have ha := h.runs.all _ (by rw [h.len, hp0]) (by rw [h.len]; exact hw)
  rcases h.ips with ⟨h1, _⟩ | ⟨_, hs, hd⟩
  · exact absurd h1 (by simp)
  · obtain ⟨Z, hZ, _⟩ := h.dst
    rw [hd] at hZ
    refine ⟨rfl, p, ha.2, ha.1, ⟨setRow_heap wr g _ _ ty _ hZ.blk⟩, grown_trans h.gr ⟨rfl, rfl, rfl, by simp [World.setRow], fun k _ hr => setRow_other wr g k _ (fun e => hr (by rw [e]))⟩⟩

theorem PassSt.done {ty : TypeId} {ev : Nat → List Value} {sz : Nat} {K : Nat → BSl} {W0 w wr : World} {p0 p : List Nat} {n g d wd : Nat} {sb db : Nat} (h : PassSt ty ev sz K W0 w wr p0 p n g d wd true sb db) (hp0 : p0.length = n) (hw : n ≤ wd) :
    SortPost ty ev K w g p0 (.returned (.tuple #[])) wr := by
  have ha := h.runs.all _ (by rw [h.len, hp0]) (by rw [h.len]; exact hw)
  rcases h.ips with ⟨_, hs, hd⟩ | ⟨h1, _⟩
  · exact ⟨rfl, p, ha.2, ha.1, hs ▸ h.src, h.gr⟩
  · exact absurd h1 (by simp)

/-- what the copy behind the last pass asks for -/
theorem PassSt.over {ty : TypeId} {ev : Nat → List Value} {sz : Nat} (hev : ∀ t, (ev t).length = sz) (hone : ∀ t, ∀ v ∈ ev t, v.oneCell' = true) {K : Nat → BSl} {W0 w wr : World} {p0 p : List Nat} {n g d wd : Nat} {sb db : Nat} (h : PassSt ty ev sz K W0 w wr p0 p n g d wd false sb db) :
    ∃ cur : Array Value, wr.heap[g]? = some (.cells cur ty (0, 0)) ∧ (p.flatMap ev).length = n * sz ∧ (∀ j v, (p.flatMap ev)[j]? = some v → wr.cell? ((⟨sb, 0, none⟩ : Addr).add j) = some v) ∧ (p.flatMap ev).length = cur.size ∧ ∀ v ∈ p.flatMap ev, v.oneCell' = true := by
  rcases h.ips with ⟨h1, _⟩ | ⟨_, hs, hd⟩
  · exact absurd h1 (by simp)
  · obtain ⟨Z, hZ, hZl⟩ := h.dst
    rw [hd] at hZ
    refine ⟨_, hZ.blk, by rw [flat_len hev, h.len], ?_, by rw [flat_len hev, h.len]; simp [hZl], ?_⟩
    · intro j v hv
      rw [Addr.add_lit]
      simp [World.cell?, h.src.blk, hv]
    · intro v hv
      obtain ⟨t, _, ht⟩ := List.mem_flatMap.1 hv
      exact hone t v ht

end Go.Proofs.Qxb6500664a
