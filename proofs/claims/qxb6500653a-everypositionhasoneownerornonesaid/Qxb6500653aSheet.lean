/-
  THE SHEET IN MEMORY, and what reads it.
-/
import Derived.Test.Qxb6500653aWk
import Derived.Maps.Own
namespace Go.Proofs.Qxb6500653a
open Go.RowKit

/-- an area of cells -/
structure Ar where
  t : Nat
  l : Nat
  b : Nat
  r : Nat
deriving DecidableEq, Inhabited
def Ar.cells (a : Ar) : List Value := [.int .i64 (a.t : Int), .int .i64 (a.l : Int), .int .i64 (a.b : Int), .int .i64 (a.r : Int)]
def Ar.v (a : Ar) : Value := .agg #[.int .i64 (a.t : Int), .int .i64 (a.l : Int), .int .i64 (a.b : Int), .int .i64 (a.r : Int)]
def addrV (r c : Nat) : Value := .agg #[.int .i64 (r : Int), .int .i64 (c : Int)]
def flatA : List Ar → List Value
  | [] => []
  | a :: m => a.cells ++ flatA m
/-- does it hold the cell? -/
def Ar.has (a : Ar) (r c : Nat) : Bool := decide (a.t ≤ r) && decide (r ≤ a.b) && decide (a.l ≤ c) && decide (c ≤ a.r)
structure Ar.Ok (a : Ar) : Prop where
  tb : a.t ≤ a.b
  lr : a.l ≤ a.r
  b : a.b < 64
  r : a.r < 26
def Ar.meets (a b : Ar) : Prop := a.t ≤ b.b ∧ b.t ≤ a.b ∧ a.l ≤ b.r ∧ b.l ≤ a.r

/-- what a cell shows -/
structure Shn where
  text : ByteArray
  num : Bool
  al : Nat
def Shn.v (s : Shn) : Value := .agg #[.string s.text, .bool s.num, .int .i64 (s.al : Int)]
def Shn.empty : Shn := ⟨ByteArray.empty, false, 0⟩

/-- an entry of the map -/
structure EOk (e : MapEntry) (r c : Nat) (s : Shn) : Prop where
  key : e.key = addrV r c
  val : e.val = s.v
  r : r < 64
  c : c < 26
  text : s.text.size ≤ 65536
  al : s.al ≤ 3
structure EsOk (es : List MapEntry) : Prop where
  each : ∀ e ∈ es, ∃ r c s, EOk e r c s
  apart : es.Pairwise (fun a b => a.key ≠ b.key)

/-- the sheet; mv: its merges' slice, pb: the map's block -/
structure Sh where
  wd : Nat → Nat
  ht : Nat → Nat
  hr : Nat → Bool
  hc : Nat → Bool
  mg : List Ar
  es : List MapEntry
  steps : Nat
  mv : Value
  pb : Nat

structure Sh.Ok (S : Sh) : Prop where
  wd : ∀ c, 1 ≤ S.wd c ∧ S.wd c ≤ 80
  ht : ∀ r, 1 ≤ S.ht r ∧ S.ht r ≤ 24
  few : S.mg.length ≤ 32
  each : ∀ a ∈ S.mg, a.Ok
  apart : S.mg.Pairwise (fun a b => ¬ a.meets b)
  es : EsOk S.es
  steps : S.steps ≤ 1000000

structure SheetAt (w : World) (sb : Nat) (S : Sh) : Prop where
  wd : ∀ c, c < 26 → w.cell? ⟨sb, c, none⟩ = some (.int .i64 (S.wd c : Int))
  ht : ∀ r, r < 64 → w.cell? ⟨sb, 26 + r, none⟩ = some (.int .i64 (S.ht r : Int))
  hr : ∀ r, r < 64 → w.cell? ⟨sb, 90 + r, none⟩ = some (.bool (S.hr r))
  hc : ∀ c, c < 26 → w.cell? ⟨sb, 154 + c, none⟩ = some (.bool (S.hc c))
  mg : w.cell? ⟨sb, 180, none⟩ = some S.mv
  mrow : w.ownsRow (sb + 1) 56 4 S.mv S.mg.length (flatA S.mg)
  mp : w.cell? ⟨sb, 181, none⟩ = some (.map (some S.pb))
  map : ∃ clock, w.heap[S.pb]? = some (.map S.es.toArray clock)
  st : w.cell? ⟨sb, 182, none⟩ = some (.int .u64 (S.steps : Int))
  free : ∀ o, w.frozen? ⟨sb, o, none⟩ = false
  mnil : S.mg = [] → S.mv = .slice none 0 0

def shP (sb : Nat) : Value := .pointer (some ⟨sb, 0, none⟩)

theorem SheetAt.lt {w : World} {sb : Nat} {S : Sh} (h : SheetAt w sb S) : sb < w.heap.size := cell_lt h.mg
theorem SheetAt.pb_lt {w : World} {sb : Nat} {S : Sh} (h : SheetAt w sb S) : S.pb < w.heap.size := by
  obtain ⟨c, hc⟩ := h.map
  rcases Nat.lt_or_ge S.pb w.heap.size with h' | h'
  · exact h'
  · rw [Array.getElem?_eq_none h'] at hc; simp at hc

/-- the sheet is kept where its three blocks are -/
theorem SheetAt.kp {X : Nat → Prop} {w w' : World} {sb : Nat} {S : Sh} (h : SheetAt w sb S) (k : Kp X w w') (h1 : ¬ X sb) (h2 : ¬ X S.pb) (h3 : ∀ g, S.mv.ownBlock = some g → ¬ X g) : SheetAt w' sb S := by
  refine ⟨fun c hc => k.cell (h.wd c hc) h1, fun c hc => k.cell (h.ht c hc) h1, fun c hc => k.cell (h.hr c hc) h1, fun c hc => k.cell (h.hc c hc) h1, k.cell h.mg h1, ?_, k.cell h.mp h1, ?_, k.cell h.st h1, fun o => (k.frozen (p := ⟨sb, o, none⟩) h.lt h1).trans (h.free o), h.mnil⟩
  · obtain ⟨hl, hr⟩ := h.mrow
    refine ⟨hl, hr.imp id ?_⟩
    rintro ⟨g, cap, cur, e1, e2, e3, e4⟩
    have hg : S.mv.ownBlock = some g := by rw [e1]; rfl
    refine ⟨g, cap, cur, e1, e2, ?_, e4⟩
    rw [k.block g ?_ (h3 g hg)]
    · exact e3
    · rcases Nat.lt_or_ge g w.heap.size with h' | h'
      · exact h'
      · rw [Array.getElem?_eq_none h'] at e3; simp at e3
  · obtain ⟨c, hc⟩ := h.map
    exact ⟨c, by rw [k.block _ h.pb_lt h2]; exact hc⟩
theorem SheetAt.on {w w' : World} {sb : Nat} {S : Sh} (h : SheetAt w sb S) (k : Kp no w w') : SheetAt w' sb S := h.kp k id id (fun _ _ => id)

/-- the blocks in X begin with no number and no slice -/
def Far (X : Nat → Prop) (w : World) : Prop := ∀ b, X b → ∃ v, w.cell? ⟨b, 0, none⟩ = some v ∧ (∀ k i, v ≠ .int k i) ∧ (∀ a n c, v ≠ .slice a n c)
/-- the blocks in X begin with a truth -/
def Boo (X : Nat → Prop) (w : World) : Prop := ∀ b, X b → ∃ v, w.cell? ⟨b, 0, none⟩ = some (.bool v)
theorem Boo.far {X : Nat → Prop} {w : World} (h : Boo X w) : Far X w := fun b hb => by
  obtain ⟨v, hv⟩ := h b hb
  exact ⟨_, hv, fun _ _ e => (by cases e), fun _ _ _ e => (by cases e)⟩
theorem Far.int {X : Nat → Prop} {w : World} (h : Far X w) {b : Nat} {k : IntKind} {i : Int} (hb : w.cell? ⟨b, 0, none⟩ = some (.int k i)) : ¬ X b := fun hx => by
  obtain ⟨v, hv, h1, _⟩ := h b hx
  rw [hb] at hv
  exact h1 k i (Option.some.inj hv).symm
theorem Far.slice {X : Nat → Prop} {w : World} (h : Far X w) {b : Nat} {a : Option Addr} {n c : Nat} (hb : w.cell? ⟨b, 0, none⟩ = some (.slice a n c)) : ¬ X b := fun hx => by
  obtain ⟨v, hv, _, h1⟩ := h b hx
  rw [hb] at hv
  exact h1 a n c (Option.some.inj hv).symm
theorem Far.map {X : Nat → Prop} {w : World} (h : Far X w) {b : Nat} {es : Array MapEntry} {c : Nat} (hb : w.heap[b]? = some (.map es c)) : ¬ X b := fun hx => by
  obtain ⟨v, hv, _⟩ := h b hx
  simp [World.cell?, hb] at hv
theorem SheetAt.head {w : World} {sb : Nat} {S : Sh} (h : SheetAt w sb S) {g : Nat} (hg : S.mv.ownBlock = some g) : ∃ i, w.cell? ⟨g, 0, none⟩ = some (.int .i64 i) := by
  rcases h.mrow.2 with ⟨e, _⟩ | ⟨g', cap, cur, e, _⟩
  · rw [e] at hg; cases hg
  · have e2 : g' = g := by rw [e] at hg; exact Option.some.inj hg
    subst e2
    cases hM : S.mg with
    | nil => rw [h.mnil hM] at e; cases e
    | cons a M =>
      have hr := h.mrow
      rw [e] at hr
      rw [hM] at hr
      exact ⟨_, (hr.cellAt 0 (by simp)).trans rfl⟩
/-- a call that writes such blocks alone leaves the sheet -/
theorem SheetAt.far {X : Nat → Prop} {w w' : World} {sb : Nat} {S : Sh} (h : SheetAt w sb S) (k : Kp X w w') (hX : Far X w) : SheetAt w' sb S := by
  refine h.kp k (hX.int (h.wd 0 (by omega))) ?_ (fun g hg => ?_)
  · obtain ⟨c, hc⟩ := h.map
    exact hX.map hc
  · obtain ⟨i, hi⟩ := h.head hg
    exact hX.int hi

section
variable (w : World) (sb : Nat) (S : Sh) (h : SheetAt w sb S)
include h

set_option maxHeartbeats 400000 in
theorem colHidden_at (c : Nat) (hc : c < 26) : Calls Try.prog 89 #[shP sb, .int .i64 (c : Int)] w fun e w' => e = .returned (.bool (S.hc c)) ∧ w' = w := by
  have q := h.hc c hc
  clear h
  unfold shP
  go_enter Try.func89, Try.ntmps89
  go_wp2
  go_ret
  exact ⟨rfl, rfl⟩
set_option maxHeartbeats 400000 in
theorem colWidth_at (c : Nat) (hc : c < 26) : Calls Try.prog 90 #[shP sb, .int .i64 (c : Int)] w fun e w' => e = .returned (.int .i64 (S.wd c : Int)) ∧ w' = w := by
  have q := h.wd c hc
  clear h
  unfold shP
  go_enter Try.func90, Try.ntmps90
  go_wp2
  go_ret
  exact ⟨rfl, rfl⟩
set_option maxHeartbeats 400000 in
theorem merges_at : Calls Try.prog 91 #[shP sb] w fun e w' => e = .returned S.mv ∧ w' = w := by
  have q := h.mg
  clear h
  unfold shP
  go_enter Try.func91, Try.ntmps91
  go_wp2
  go_ret
  exact ⟨rfl, rfl⟩
set_option maxHeartbeats 400000 in
theorem revision_at : Calls Try.prog 92 #[shP sb] w fun e w' => e = .returned (.int .u64 (S.steps : Int)) ∧ w' = w := by
  have q := h.st
  clear h
  unfold shP
  go_enter Try.func92, Try.ntmps92
  go_wp2
  go_ret
  exact ⟨rfl, rfl⟩
set_option maxHeartbeats 400000 in
theorem rowHeight_at (c : Nat) (hc : c < 64) : Calls Try.prog 93 #[shP sb, .int .i64 (c : Int)] w fun e w' => e = .returned (.int .i64 (S.ht c : Int)) ∧ w' = w := by
  have q := h.ht c hc
  clear h
  unfold shP
  go_enter Try.func93, Try.ntmps93
  go_wp2
  go_ret
  exact ⟨rfl, rfl⟩
set_option maxHeartbeats 400000 in
theorem rowHidden_at (c : Nat) (hc : c < 64) : Calls Try.prog 94 #[shP sb, .int .i64 (c : Int)] w fun e w' => e = .returned (.bool (S.hr c)) ∧ w' = w := by
  have q := h.hr c hc
  clear h
  unfold shP
  go_enter Try.func94, Try.ntmps94
  go_wp2
  go_ret
  exact ⟨rfl, rfl⟩
end
end Go.Proofs.Qxb6500653a
