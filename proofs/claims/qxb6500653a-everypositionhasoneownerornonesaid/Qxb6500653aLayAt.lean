/-
  THE LAYOUT IN MEMORY.
-/
import Derived.Test.Qxb6500653aNewAxis
import Derived.Test.Qxb6500653aNewAxisC
namespace Go.Proofs.Qxb6500653a
open Go.RowKit

/-- the view -/
structure Vw where
  fr : Nat
  fc : Nat
  sr : Nat
  sc : Nat
deriving DecidableEq
structure Vw.Ok (V : Vw) : Prop where
  r : V.fr ≤ V.sr
  c : V.fc ≤ V.sc
  sr : V.sr < 64
  sc : V.sc < 26

def rowSz (S : Sh) (i : Nat) : Nat := if i < 64 ∧ S.hr i = false then S.ht i else 0
def colSz (S : Sh) (i : Nat) : Nat := if i < 26 ∧ S.hc i = false then S.wd i else 0
def rowAx (S : Sh) (V : Vw) (zb tb lb : Nat) : Ax := mkAx 64 24 V.fr V.sr (rowSz S) zb tb lb
def colAx (S : Sh) (V : Vw) (zb tb lb : Nat) : Ax := mkAx 26 80 V.fc V.sc (colSz S) zb tb lb

theorem rowOk {S : Sh} {V : Vw} (hS : S.Ok) (hV : V.Ok) : SzOk 64 24 V.fr V.sr (rowSz S) :=
  ⟨Nat.le_refl _, by omega, hV.r, hV.sr, fun i => by have := (hS.ht i).2; unfold rowSz; split <;> omega, fun i hi => by unfold rowSz; rw [if_neg (by omega)]⟩
theorem colOk {S : Sh} {V : Vw} (hS : S.Ok) (hV : V.Ok) : SzOk 26 80 V.fc V.sc (colSz S) :=
  ⟨by omega, Nat.le_refl _, hV.c, hV.sc, fun i => by have := (hS.wd i).2; unfold colSz; split <;> omega, fun i hi => by unfold colSz; rw [if_neg (by omega)]⟩

theorem newAxis_row (w : World) (sb : Nat) (S : Sh) (V : Vw) (h : SheetAt w sb S) (hS : S.Ok) (hV : V.Ok) :
    Calls Try.prog 48 #[.int .i64 64, .int .i64 24, .int .i64 (V.fr : Int), .int .i64 (V.sr : Int), .func (.method "RowHeight") #[.iface 38 (.pointer (some ⟨sb, 0, none⟩))] #[], .func (.method "RowHidden") #[.iface 38 (.pointer (some ⟨sb, 0, none⟩))] #[]] w (NAPost 64 24 V.fr V.sr (rowSz S) w) :=
  newAxis_rows w sb 64 24 V.fr V.sr (rowSz S) S.hr S.ht (fun w' i k hi => rowHeight_at w' sb S (h.on k) i hi) (fun w' i k hi => rowHidden_at w' sb S (h.on k) i hi)
    (fun i hi => by unfold rowSz; cases S.hr i <;> simp [hi]) (rowOk hS hV)
theorem newAxis_col (w : World) (sb : Nat) (S : Sh) (V : Vw) (h : SheetAt w sb S) (hS : S.Ok) (hV : V.Ok) :
    Calls Try.prog 48 #[.int .i64 26, .int .i64 80, .int .i64 (V.fc : Int), .int .i64 (V.sc : Int), .func (.method "ColWidth") #[.iface 38 (.pointer (some ⟨sb, 0, none⟩))] #[], .func (.method "ColHidden") #[.iface 38 (.pointer (some ⟨sb, 0, none⟩))] #[]] w (NAPost 26 80 V.fc V.sc (colSz S) w) :=
  newAxis_cols w sb 26 80 V.fc V.sc (colSz S) S.hc S.wd (fun w' i k hi => colWidth_at w' sb S (h.on k) i hi) (fun w' i k hi => colHidden_at w' sb S (h.on k) i hi)
    (fun i hi => by unfold colSz; cases S.hc i <;> simp [hi]) (colOk hS hV)

/-- the two axes at rb, cb -/
structure AxesAt (w : World) (rb cb : Nat) (S : Sh) (V : Vw) : Prop where
  row : ∃ zb tb lb, AxAt w rb (rowAx S V zb tb lb)
  col : ∃ zb tb lb, AxAt w cb (colAx S V zb tb lb)

theorem AxAt.kp {X : Nat → Prop} {w w' : World} {ab : Nat} {A : Ax} (h : AxAt w ab A) (k : Kp X w w') (h1 : ¬ X ab) (h2 : ¬ X A.zb) (h3 : ¬ X A.tb) (h4 : ¬ X A.lb) : AxAt w' ab A :=
  ⟨k.cell h.c0 h1, k.cell h.c1 h1, k.cell h.c2 h1, k.cell h.c3 h1, k.cell h.c4 h1, k.cell h.c5 h1, k.cell h.c6 h1, k.cell h.c7 h1, k.cell h.c8 h1, k.cell h.c9 h1, k.cell h.c10 h1, fun i hi => k.cell (h.cz i hi) h2, fun i hi => k.cell (h.ct i hi) h3, fun i hi => k.cell (h.cl i hi) h4⟩
theorem AxAt.far {X : Nat → Prop} {w w' : World} {ab : Nat} {A : Ax} (h : AxAt w ab A) (k : Kp X w w') (hX : Far X w) (hn : 0 < A.n) (hm : 0 < A.m) : AxAt w' ab A :=
  h.kp k (hX.slice h.c0) (hX.int (h.cz 0 hn)) (hX.int (h.ct 0 hn)) (hX.int (h.cl 0 hm))
theorem AxesAt.far {X : Nat → Prop} {w w' : World} {rb cb : Nat} {S : Sh} {V : Vw} (h : AxesAt w rb cb S V) (k : Kp X w w') (hX : Far X w) : AxesAt w' rb cb S V := by
  obtain ⟨a, b, c, h1⟩ := h.row
  obtain ⟨d, e, f, h2⟩ := h.col
  exact ⟨⟨a, b, c, h1.far k hX (by show 0 < 64; omega) (by show 0 < 24; omega)⟩, ⟨d, e, f, h2.far k hX (by show 0 < 26; omega) (by show 0 < 80; omega)⟩⟩
theorem Far.no (w : World) : Far no w := fun _ h => h.elim
theorem Boo.no (w : World) : Boo no w := fun _ h => h.elim

/-- the layout at lb over the sheet at sb -/
structure LayAt (w : World) (lb sb : Nat) (S : Sh) (V : Vw) : Prop where
  src : w.cell? ⟨lb, 0, none⟩ = some (srcV sb)
  c1 : w.cell? ⟨lb, 1, none⟩ = some (.int .i64 (V.fr : Int))
  c2 : w.cell? ⟨lb, 2, none⟩ = some (.int .i64 (V.fc : Int))
  c3 : w.cell? ⟨lb, 3, none⟩ = some (.int .i64 (V.sr : Int))
  c4 : w.cell? ⟨lb, 4, none⟩ = some (.int .i64 (V.sc : Int))
  kept : ∃ (rp cp : Option Addr) (rev : Nat), w.cell? ⟨lb, 5, none⟩ = some (.pointer rp) ∧ w.cell? ⟨lb, 6, none⟩ = some (.pointer cp) ∧ w.cell? ⟨lb, 7, none⟩ = some (.int .u64 (rev : Int)) ∧ rev ≤ S.steps ∧
    (rp = none ∨ rev < S.steps ∨ ∃ rb cb, rp = some ⟨rb, 0, none⟩ ∧ cp = some ⟨cb, 0, none⟩ ∧ AxesAt w rb cb S V)
  free : ∀ o, w.frozen? ⟨lb, o, none⟩ = false

theorem LayAt.lt {w : World} {lb sb : Nat} {S : Sh} {V : Vw} (h : LayAt w lb sb S V) : lb < w.heap.size := cell_lt h.src
theorem LayAt.farOne {w : World} {lb sb : Nat} {S : Sh} {V : Vw} (h : LayAt w lb sb S V) : Far (one lb) w := fun b hb => by
  subst hb
  exact ⟨_, h.src, fun _ _ e => (by cases e), fun _ _ _ e => (by cases e)⟩
/-- a call that writes truths' blocks alone leaves the layout -/
theorem LayAt.boo {X : Nat → Prop} {w w' : World} {lb sb : Nat} {S : Sh} {V : Vw} (h : LayAt w lb sb S V) (k : Kp X w w') (hX : Boo X w) : LayAt w' lb sb S V := by
  have hn : ¬ X lb := fun hx => by
    obtain ⟨v, hv⟩ := hX lb hx
    rw [h.src] at hv
    cases hv
  obtain ⟨rp, cp, rev, h5, h6, h7, hr, hk⟩ := h.kept
  refine ⟨k.cell h.src hn, k.cell h.c1 hn, k.cell h.c2 hn, k.cell h.c3 hn, k.cell h.c4 hn, ⟨rp, cp, rev, k.cell h5 hn, k.cell h6 hn, k.cell h7 hn, hr, ?_⟩, fun o => (k.frozen (p := ⟨lb, o, none⟩) h.lt hn).trans (h.free o)⟩
  rcases hk with hk | hk | ⟨rb, cb, e1, e2, hk⟩
  · exact Or.inl hk
  · exact Or.inr (Or.inl hk)
  · exact Or.inr (Or.inr ⟨rb, cb, e1, e2, hk.far k hX.far⟩)
theorem LayAt.on {w w' : World} {lb sb : Nat} {S : Sh} {V : Vw} (h : LayAt w lb sb S V) (k : Kp no w w') : LayAt w' lb sb S V := h.boo k (Boo.no w)
theorem AxesAt.on {w w' : World} {rb cb : Nat} {S : Sh} {V : Vw} (h : AxesAt w rb cb S V) (k : Kp no w w') : AxesAt w' rb cb S V := h.far k (Far.no w)
end Go.Proofs.Qxb6500653a
