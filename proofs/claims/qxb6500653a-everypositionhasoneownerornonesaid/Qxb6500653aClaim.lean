/-
  EveryPosition: how often the rectangles, and the panes, hold a position.
-/
import Derived.Test.Qxb6500653aOwnLaw
namespace Go.Proofs.Qxb6500653a
open Go.RowKit

def Rc.holds (R : Rc) (y x : Nat) : Bool := decide (R.y0 ≤ (y : Int) ∧ (y : Int) < R.y1 ∧ R.x0 ≤ (x : Int) ∧ (x : Int) < R.x1)
def cntR (L : List Rc) (y x : Nat) : Nat := L.countP (fun R => R.holds y x)
theorem cntR_append (a b : List Rc) (y x : Nat) : cntR (a ++ b) y x = cntR a y x + cntR b y x := List.countP_append
theorem bandP_two {m fz : Nat} {sz : Nat → Nat} (p : Nat) : bandP m fz sz p = 0 ∨ bandP m fz sz p = 1 := by
  unfold bandP
  split
  · exact Or.inl rfl
  · exact Or.inr rfl
theorem cell_cnt {S : Sh} {V : Vw} (hV : V.Ok) {a : Ar} (ha : a.Ok) {i k y x : Nat} (hi : i < 2) (hk : k < 2) (hy : y < 24) (hx : x < 80) :
    cntR (cellRc S V a i k) y x = if (bandP 24 V.fr (rowSz S) y = i ∧ (a.t : Int) ≤ lnR S V y ∧ lnR S V y ≤ (a.b : Int)) ∧ (bandP 80 V.fc (colSz S) x = k ∧ (a.l : Int) ≤ lnC S V x ∧ lnC S V x ≤ (a.r : Int)) then 1 else 0 := by
  have h1 := clipB_iff (n := 64) (sz := rowSz S) hV.r hV.sr hi hy ha.tb ha.b
  have h2 := clipB_iff (n := 26) (sz := colSz S) hV.c hV.sc hk hx ha.lr ha.r
  have e1 : lnK 64 24 V.fr V.sr (rowSz S) 64 y = lnR S V y := rfl
  have e2 : lnK 26 80 V.fc V.sc (colSz S) 26 x = lnC S V x := rfl
  rw [e1] at h1
  rw [e2] at h2
  have f1 : mkAx 64 24 V.fr V.sr (rowSz S) 0 0 0 = rowAx S V 0 0 0 := rfl
  have f2 : mkAx 26 80 V.fc V.sc (colSz S) 0 0 0 = colAx S V 0 0 0 := rfl
  rw [f1] at h1
  rw [f2] at h2
  unfold cellRc
  generalize (rowAx S V 0 0 0).clipB i a.t a.b = R at h1 ⊢
  generalize (colAx S V 0 0 0).clipB k a.l a.r = C at h2 ⊢
  by_cases hin : (bandP 24 V.fr (rowSz S) y = i ∧ (a.t : Int) ≤ lnR S V y ∧ lnR S V y ≤ (a.b : Int)) ∧ (bandP 80 V.fc (colSz S) x = k ∧ (a.l : Int) ≤ lnC S V x ∧ lnC S V x ≤ (a.r : Int))
  · have g1 := h1.2 hin.1
    have g2 := h2.2 hin.2
    rw [if_pos hin, if_pos ⟨by omega, by omega⟩]
    unfold cntR
    have : Rc.holds ⟨R.1, C.1, R.2, C.2⟩ y x = true := decide_eq_true ⟨g1.1, g1.2, g2.1, g2.2⟩
    simp [this]
  · rw [if_neg hin]
    split
    · have : Rc.holds ⟨R.1, C.1, R.2, C.2⟩ y x = false := decide_eq_false (fun hh => hin ⟨h1.1 ⟨hh.1, hh.2.1⟩, h2.1 ⟨hh.2.2.1, hh.2.2.2⟩⟩)
      unfold cntR
      simp [this]
    · rfl
theorem area_cnt {S : Sh} {V : Vw} (hV : V.Ok) {a : Ar} (ha : a.Ok) {y x : Nat} (hy : y < 24) (hx : x < 80) :
    cntR (accRc S V a 2) y x = if ((a.t : Int) ≤ lnR S V y ∧ lnR S V y ≤ (a.b : Int)) ∧ ((a.l : Int) ≤ lnC S V x ∧ lnC S V x ≤ (a.r : Int)) then 1 else 0 := by
  simp only [accRc, innRc, List.nil_append, cntR_append]
  rw [cell_cnt hV ha (i := 0) (k := 0) (by omega) (by omega) hy hx, cell_cnt hV ha (i := 0) (k := 1) (by omega) (by omega) hy hx, cell_cnt hV ha (i := 1) (k := 0) (by omega) (by omega) hy hx, cell_cnt hV ha (i := 1) (k := 1) (by omega) (by omega) hy hx]
  rcases bandP_two (m := 24) (fz := V.fr) (sz := rowSz S) y with h1 | h1 <;> rcases bandP_two (m := 80) (fz := V.fc) (sz := colSz S) x with h2 | h2 <;> simp only [h1, h2] <;> by_cases p : ((a.t : Int) ≤ lnR S V y ∧ lnR S V y ≤ (a.b : Int)) <;> by_cases q : ((a.l : Int) ≤ lnC S V x ∧ lnC S V x ≤ (a.r : Int)) <;> simp [p, q]
/-- a cell's rectangles hold just the positions that it owns, each once -/
theorem rect_cnt {S : Sh} {V : Vw} (hS : S.Ok) (hV : V.Ok) {r c : Nat} (hr : r < 64) (hc : c < 26) {y x : Nat} (hy : y < 24) (hx : x < 80) :
    cntR (rectsOf S V (r : Int) (c : Int)) y x = if ownsAt S V y x = true ∧ rowAt S V y x = r ∧ colAt S V y x = c then 1 else 0 := by
  unfold rectsOf
  simp only [Int.toNat_natCast]
  have hin : inS (r : Int) (c : Int) = true := by
    unfold inS
    simp
    omega
  have lR := lnR_cases S V y
  have lC := lnC_cases S V x
  by_cases ho : ownR S.mg r c = r ∧ ownC S.mg r c = c
  · rw [if_pos ⟨hin, ho⟩, area_cnt hV (areaOf_ok hS hr hc) hy hx]
    have hok := areaOf_ok hS hr hc
    by_cases hown : ownsAt S V y x = true
    · obtain ⟨n1, n2⟩ := ownsAt_iff.1 hown
      have hi := area_iff (p := (lnR S V y).toNat) (q := (lnC S V x).toNat) hS ho.1 ho.2
      unfold rowAt colAt
      by_cases hh : ownR S.mg (lnR S V y).toNat (lnC S V x).toNat = r ∧ ownC S.mg (lnR S V y).toNat (lnC S V x).toNat = c
      · have := hi.2 hh
        rw [if_pos ⟨by omega, by omega⟩, if_pos ⟨hown, hh⟩]
      · rw [if_neg (fun hx' => hh (hi.1 ⟨by omega, by omega, by omega, by omega⟩)), if_neg (fun hx' => hh hx'.2)]
    · rw [if_neg (fun hx' => hown (ownsAt_iff.2 ⟨by omega, by omega⟩)), if_neg (fun hx' => hown hx'.1)]
  · rw [if_neg (fun hx' => ho hx'.2)]
    have : ¬ (ownsAt S V y x = true ∧ rowAt S V y x = r ∧ colAt S V y x = c) := fun hh => by
      have h := own_area hS (lnR S V y).toNat (lnC S V x).toNat
      have e1 : ownR S.mg (lnR S V y).toNat (lnC S V x).toNat = r := hh.2.1
      have e2 : ownC S.mg (lnR S V y).toNat (lnC S V x).toNat = c := hh.2.2
      rw [e1, e2] at h
      exact ho ⟨h.2.2.2.2.2.2.1, h.2.2.2.2.2.2.2⟩
    rw [if_neg this]
    rfl
theorem rect_owner {S : Sh} {V : Vw} (hS : S.Ok) (hV : V.Ok) {r c : Nat} (hr : r < 64) (hc : c < 26) {R : Rc} (hR : R ∈ rectsOf S V (r : Int) (c : Int)) {y x : Nat} (hy : y < 24) (hx : x < 80) (h : R.holds y x = true) : ownsAt S V y x = true ∧ rowAt S V y x = r ∧ colAt S V y x = c := by
  have hp : 0 < cntR (rectsOf S V (r : Int) (c : Int)) y x := List.countP_pos_iff.2 ⟨R, hR, h⟩
  rw [rect_cnt hS hV hr hc hy hx] at hp
  split at hp
  · assumption
  · omega
/-- the positions of the cells before (r, c) -/
def doneR (S : Sh) (V : Vw) (r c y x : Nat) : Nat := if ownsAt S V y x = true ∧ (rowAt S V y x < r ∨ (rowAt S V y x = r ∧ colAt S V y x < c)) then 1 else 0
theorem done_next {S : Sh} {V : Vw} (hS : S.Ok) (hV : V.Ok) {r c : Nat} (hr : r < 64) (hc : c < 26) {y x : Nat} (hy : y < 24) (hx : x < 80) : doneR S V r c y x + cntR (rectsOf S V (r : Int) (c : Int)) y x = doneR S V r (c + 1) y x := by
  rw [rect_cnt hS hV hr hc hy hx]
  unfold doneR
  by_cases ho : ownsAt S V y x = true
  · by_cases h1 : rowAt S V y x < r ∨ (rowAt S V y x = r ∧ colAt S V y x < c)
    · rw [if_pos ⟨ho, h1⟩, if_neg (fun h => by omega), if_pos ⟨ho, by omega⟩]
    · rw [if_neg (fun h => h1 h.2)]
      by_cases h2 : rowAt S V y x = r ∧ colAt S V y x = c
      · rw [if_pos ⟨ho, h2⟩, if_pos ⟨ho, by omega⟩]
      · rw [if_neg (fun h => h2 h.2), if_neg (fun h => by omega)]
  · rw [if_neg (fun h => ho h.1), if_neg (fun h => ho h.1), if_neg (fun h => ho h.1)]
theorem at_lt {S : Sh} {V : Vw} (hS : S.Ok) {y x : Nat} (h : ownsAt S V y x = true) : rowAt S V y x < 64 ∧ colAt S V y x < 26 := by
  obtain ⟨h1, h2⟩ := ownsAt_iff.1 h
  rcases lnR_cases S V y with e | ⟨i, i1, i2⟩
  · omega
  · rcases lnC_cases S V x with e | ⟨j, j1, j2⟩
    · omega
    · have := own_lt hS i1 j1
      unfold rowAt colAt
      rw [i2, j2]
      exact this
theorem done_row {S : Sh} {V : Vw} (hS : S.Ok) (r y x : Nat) : doneR S V r 26 y x = doneR S V (r + 1) 0 y x := by
  unfold doneR
  by_cases ho : ownsAt S V y x = true
  · have := at_lt hS ho
    by_cases h1 : rowAt S V y x < r ∨ (rowAt S V y x = r ∧ colAt S V y x < 26)
    · rw [if_pos ⟨ho, h1⟩, if_pos ⟨ho, by omega⟩]
    · rw [if_neg (fun h => h1 h.2), if_neg (fun h => by omega)]
  · rw [if_neg (fun h => ho h.1), if_neg (fun h => ho h.1)]
theorem done_all {S : Sh} {V : Vw} (hS : S.Ok) (y x : Nat) : doneR S V 64 0 y x = if ownsAt S V y x = true then 1 else 0 := by
  unfold doneR
  by_cases ho : ownsAt S V y x = true
  · have := at_lt hS ho
    rw [if_pos ⟨ho, by omega⟩, if_pos ho]
  · rw [if_neg (fun h => ho h.1), if_neg ho]
theorem done_none (S : Sh) (V : Vw) (y x : Nat) : doneR S V 0 0 y x = 0 := by
  unfold doneR
  exact if_neg (fun h => by omega)
theorem cntR_take {L : List Rc} {j : Nat} {R : Rc} (h : L[j]? = some R) (y x : Nat) : cntR (L.take (j + 1)) y x = cntR (L.take j) y x + (if R.holds y x = true then 1 else 0) := by
  rw [List.take_add_one, h, cntR_append]
  unfold cntR
  simp [List.countP_cons]

/-! ### panes -/
def Pn.holds (R : Pn) (y x : Nat) : Bool := decide (R.y0 ≤ (y : Int) ∧ (y : Int) < R.y1 ∧ R.x0 ≤ (x : Int) ∧ (x : Int) < R.x1)
def cntP (L : List Pn) (y x : Nat) : Nat := L.countP (fun R => R.holds y x)
theorem cntP_append (a b : List Pn) (y x : Nat) : cntP (a ++ b) y x = cntP a y x + cntP b y x := List.countP_append
theorem cntP_take {L : List Pn} {j : Nat} {R : Pn} (h : L[j]? = some R) (y x : Nat) : cntP (L.take (j + 1)) y x = cntP (L.take j) y x + (if R.holds y x = true then 1 else 0) := by
  rw [List.take_add_one, h, cntP_append]
  unfold cntP
  simp [List.countP_cons]
theorem pane_cnt (R C : Ax) (i k y x : Nat) : cntP (panePn R C i k) y x = if (R.bLo i ≤ y ∧ y < R.bHi i) ∧ (C.bLo k ≤ x ∧ x < C.bHi k) then 1 else 0 := by
  unfold panePn
  by_cases hin : (R.bLo i ≤ y ∧ y < R.bHi i) ∧ (C.bLo k ≤ x ∧ x < C.bHi k)
  · rw [if_pos hin, if_pos ⟨by omega, by omega⟩]
    have : Pn.holds ⟨R.bLo i, C.bLo k, R.bHi i, C.bHi k, R.ln (R.bLo i), C.ln (C.bLo k), R.ln (R.bHi i - 1), C.ln (C.bHi k - 1)⟩ y x = true := decide_eq_true ⟨by show ((R.bLo i : Nat) : Int) ≤ _; omega, by show _ < ((R.bHi i : Nat) : Int); omega, by show ((C.bLo k : Nat) : Int) ≤ _; omega, by show _ < ((C.bHi k : Nat) : Int); omega⟩
    unfold cntP
    simp [this]
  · rw [if_neg hin]
    split
    · have : Pn.holds ⟨R.bLo i, C.bLo k, R.bHi i, C.bHi k, R.ln (R.bLo i), C.ln (C.bLo k), R.ln (R.bHi i - 1), C.ln (C.bHi k - 1)⟩ y x = false := decide_eq_false (fun hh => hin (by
        have h1 : ((R.bLo i : Nat) : Int) ≤ (y : Int) := hh.1
        have h2 : (y : Int) < ((R.bHi i : Nat) : Int) := hh.2.1
        have h3 : ((C.bLo k : Nat) : Int) ≤ (x : Int) := hh.2.2.1
        have h4 : (x : Int) < ((C.bHi k : Nat) : Int) := hh.2.2.2
        omega))
      unfold cntP
      simp [this]
    · rfl
theorem edge_hi {n m fz sc : Nat} {sz : Nat → Nat} (_h : fz ≤ sc) (hn : sc < n) : edgeOf m fz sz ≤ hiOf n m fz sc sz := by
  have h2 := sums_mono sz (show sc ≤ n by omega)
  unfold hiOf edgeOf
  omega
/-- the panes hold just the owned positions, each once -/
theorem panes_cnt {S : Sh} {V : Vw} (hV : V.Ok) {y x : Nat} (hy : y < 24) (hx : x < 80) : cntP (panesOf S V) y x = if ownsAt S V y x = true then 1 else 0 := by
  have h1 : 0 ≤ lnR S V y ↔ y < hiOf 64 24 V.fr V.sr (rowSz S) := ln_hi hV.r hV.sr hy
  have h2 : 0 ≤ lnC S V x ↔ x < hiOf 26 80 V.fc V.sc (colSz S) := ln_hi hV.c hV.sc hx
  have e1 := edge_hi (m := 24) (sz := rowSz S) hV.r hV.sr
  have e2 := edge_hi (m := 80) (sz := colSz S) hV.c hV.sc
  unfold panesOf
  simp only [accPn, innPn, List.nil_append, cntP_append]
  rw [pane_cnt, pane_cnt, pane_cnt, pane_cnt]
  have a0 : (rowAx S V 0 0 0).bLo 0 = 0 := rfl
  have a1 : (rowAx S V 0 0 0).bHi 0 = edgeOf 24 V.fr (rowSz S) := rfl
  have a2 : (rowAx S V 0 0 0).bLo 1 = edgeOf 24 V.fr (rowSz S) := rfl
  have a3 : (rowAx S V 0 0 0).bHi 1 = hiOf 64 24 V.fr V.sr (rowSz S) := rfl
  have b0 : (colAx S V 0 0 0).bLo 0 = 0 := rfl
  have b1 : (colAx S V 0 0 0).bHi 0 = edgeOf 80 V.fc (colSz S) := rfl
  have b2 : (colAx S V 0 0 0).bLo 1 = edgeOf 80 V.fc (colSz S) := rfl
  have b3 : (colAx S V 0 0 0).bHi 1 = hiOf 26 80 V.fc V.sc (colSz S) := rfl
  rw [a0, a1, a2, a3, b0, b1, b2, b3]
  generalize edgeOf 24 V.fr (rowSz S) = E at *
  generalize hiOf 64 24 V.fr V.sr (rowSz S) = H at *
  generalize edgeOf 80 V.fc (colSz S) = E' at *
  generalize hiOf 26 80 V.fc V.sc (colSz S) = H' at *
  by_cases ho : ownsAt S V y x = true
  · obtain ⟨g1, g2⟩ := ownsAt_iff.1 ho
    have g1 := h1.1 g1
    have g2 := h2.1 g2
    rw [if_pos ho]
    rcases Nat.lt_or_ge y E with k1 | k1 <;> rcases Nat.lt_or_ge x E' with k2 | k2
    · rw [if_pos ⟨⟨by omega, k1⟩, by omega, k2⟩, if_neg (fun h => by omega), if_neg (fun h => by omega), if_neg (fun h => by omega)]
    · rw [if_neg (fun h => by omega), if_pos ⟨⟨by omega, k1⟩, k2, g2⟩, if_neg (fun h => by omega), if_neg (fun h => by omega)]
    · rw [if_neg (fun h => by omega), if_neg (fun h => by omega), if_pos ⟨⟨k1, g1⟩, by omega, k2⟩, if_neg (fun h => by omega)]
    · rw [if_neg (fun h => by omega), if_neg (fun h => by omega), if_neg (fun h => by omega), if_pos ⟨⟨k1, g1⟩, k2, g2⟩]
  · have hn : ¬ (y < H ∧ x < H') := fun h => ho (ownsAt_iff.2 ⟨h1.2 h.1, h2.2 h.2⟩)
    rw [if_neg ho, if_neg (fun h => hn ⟨by omega, by omega⟩), if_neg (fun h => hn ⟨by omega, by omega⟩), if_neg (fun h => hn ⟨by omega, by omega⟩), if_neg (fun h => hn ⟨by omega, by omega⟩)]
/-- what the law asks of a band -/
structure BandOk (n m fz sc : Nat) (sz : Nat → Nat) (i : Nat) (lo hi : Nat) (t b : Int) : Prop where
  lh : lo < hi
  him : hi ≤ m
  zero : i = 0 → lo = 0 ∧ b < (fz : Int)
  one : i = 1 → (fz : Int) ≤ b ∧ (sc : Int) ≤ t
  tn : 0 ≤ t
  bn : b < (n : Int)
  in_ : ∀ p, lo ≤ p → p < hi → t ≤ lnK n m fz sc sz n p ∧ lnK n m fz sc sz n p ≤ b ∧ 0 ≤ lnK n m fz sc sz n p
theorem band_ok {n m fz sc : Nat} {sz : Nat → Nat} (hfs : fz ≤ sc) (hsn : sc < n) {i : Nat} (hi : i < 2) (h : (mkAx n m fz sc sz 0 0 0).bLo i < (mkAx n m fz sc sz 0 0 0).bHi i) :
    BandOk n m fz sc sz i ((mkAx n m fz sc sz 0 0 0).bLo i) ((mkAx n m fz sc sz 0 0 0).bHi i) (lnK n m fz sc sz n ((mkAx n m fz sc sz 0 0 0).bLo i)) (lnK n m fz sc sz n ((mkAx n m fz sc sz 0 0 0).bHi i - 1)) := by
  have he := edge_hi (m := m) (sz := sz) hfs hsn
  have hm : hiOf n m fz sc sz ≤ m := by unfold hiOf; omega
  have hh : (mkAx n m fz sc sz 0 0 0).bHi i ≤ hiOf n m fz sc sz := by
    rcases (show i = 0 ∨ i = 1 by omega) with rfl | rfl
    · exact he
    · exact Nat.le_refl _
  have sh : ∀ p, p < (mkAx n m fz sc sz 0 0 0).bHi i → 0 ≤ lnK n m fz sc sz n p := fun p hp => (ln_hi hfs hsn (show p < m by omega)).2 (by omega)
  have nn : ∀ p, p < (mkAx n m fz sc sz 0 0 0).bHi i → ∃ k : Nat, k < n ∧ lnK n m fz sc sz n p = (k : Int) := fun p hp => by
    rcases lnK_cases n m fz sc sz n p with e | e
    · have := sh p hp; omega
    · exact e
  refine ⟨h, by omega, fun e => ?_, fun e => ?_, sh _ h, ?_, fun p p1 p2 => ⟨?_, ?_, sh p p2⟩⟩
  · subst e
    refine ⟨rfl, ?_⟩
    obtain ⟨k, k1, k2⟩ := nn ((mkAx n m fz sc sz 0 0 0).bHi 0 - 1) (by omega)
    have hb : (mkAx n m fz sc sz 0 0 0).bHi 0 = edgeOf m fz sz := rfl
    have := (ln_band hfs hsn (show (mkAx n m fz sc sz 0 0 0).bHi 0 - 1 < m by omega) k1 k2).1 (by rw [hb] at h ⊢; omega)
    omega
  · subst e
    obtain ⟨k, k1, k2⟩ := nn ((mkAx n m fz sc sz 0 0 0).bHi 1 - 1) (by omega)
    obtain ⟨j, j1, j2⟩ := nn ((mkAx n m fz sc sz 0 0 0).bLo 1) h
    have hb : (mkAx n m fz sc sz 0 0 0).bLo 1 = edgeOf m fz sz := rfl
    have g1 := (ln_band hfs hsn (show (mkAx n m fz sc sz 0 0 0).bHi 1 - 1 < m by omega) k1 k2).2 (by rw [hb] at h; omega)
    have g2 := (ln_band hfs hsn (show (mkAx n m fz sc sz 0 0 0).bLo 1 < m by omega) j1 j2).2 (by rw [hb]; omega)
    omega
  · obtain ⟨k, k1, k2⟩ := nn ((mkAx n m fz sc sz 0 0 0).bHi i - 1) (by omega)
    omega
  · exact (ln_mono hfs hsn p1 (by omega) (sh p p2)).2
  · exact (ln_mono hfs hsn (show p ≤ (mkAx n m fz sc sz 0 0 0).bHi i - 1 by omega) (by omega) (sh _ (by omega))).2
/-- a pane -/
structure PaneOk (S : Sh) (V : Vw) (P : Pn) : Prop where
  ex : ∃ i k y0 y1 x0 x1 : Nat, i < 2 ∧ k < 2 ∧ P.y0 = (y0 : Int) ∧ P.y1 = (y1 : Int) ∧ P.x0 = (x0 : Int) ∧ P.x1 = (x1 : Int) ∧ BandOk 64 24 V.fr V.sr (rowSz S) i y0 y1 P.t P.b ∧ BandOk 26 80 V.fc V.sc (colSz S) k x0 x1 P.l P.r
theorem pane_mem {S : Sh} {V : Vw} (hV : V.Ok) {i k : Nat} (hi : i < 2) (hk : k < 2) {P : Pn} (h : P ∈ panePn (rowAx S V 0 0 0) (colAx S V 0 0 0) i k) : PaneOk S V P := by
  unfold panePn at h
  split at h
  · rename_i hc
    simp only [List.mem_singleton] at h
    subst h
    exact ⟨i, k, _, _, _, _, hi, hk, rfl, rfl, rfl, rfl, band_ok hV.r hV.sr hi hc.1, band_ok hV.c hV.sc hk hc.2⟩
  · cases h
theorem panes_ok {S : Sh} {V : Vw} (hV : V.Ok) : ∀ P ∈ panesOf S V, PaneOk S V P := fun P h => by
  unfold panesOf at h
  simp only [accPn, innPn, List.nil_append] at h
  rcases List.mem_append.1 h with h | h <;> rcases List.mem_append.1 h with h | h
  · exact pane_mem hV (by omega) (by omega) h
  · exact pane_mem hV (by omega) (by omega) h
  · exact pane_mem hV (by omega) (by omega) h
  · exact pane_mem hV (by omega) (by omega) h

/-! ### the neighbours, the rows and columns that show -/
theorem own_left {S : Sh} {V : Vw} (hS : S.Ok) (hV : V.Ok) {y x : Nat} (hx : x + 1 < 80) (h : ownsAt S V y (x + 1) = true) : ownsAt S V y x = true ∧ colAt S V y x ≤ colAt S V y (x + 1) := by
  obtain ⟨h1, h2⟩ := ownsAt_iff.1 h
  have g := ln_mono (n := 26) (m := 80) (sz := colSz S) hV.c hV.sc (show x ≤ x + 1 by omega) hx h2
  have g1 : 0 ≤ lnC S V x := g.1
  have g2 : lnC S V x ≤ lnC S V (x + 1) := g.2
  refine ⟨ownsAt_iff.2 ⟨h1, g1⟩, ?_⟩
  unfold colAt
  exact ownC_mono hS (by omega)
theorem own_up {S : Sh} {V : Vw} (hS : S.Ok) (hV : V.Ok) {y x : Nat} (hy : y + 1 < 24) (h : ownsAt S V (y + 1) x = true) : ownsAt S V y x = true ∧ rowAt S V y x ≤ rowAt S V (y + 1) x := by
  obtain ⟨h1, h2⟩ := ownsAt_iff.1 h
  have g := ln_mono (n := 64) (m := 24) (sz := rowSz S) hV.r hV.sr (show y ≤ y + 1 by omega) hy h1
  have g1 : 0 ≤ lnR S V y := g.1
  have g2 : lnR S V y ≤ lnR S V (y + 1) := g.2
  refine ⟨ownsAt_iff.2 ⟨g1, h2⟩, ?_⟩
  unfold rowAt
  exact ownR_mono hS (by omega)
/-- the owner's area shows: it holds a row and a column that are not hidden -/
structure AreaShows (S : Sh) (r c : Nat) (p q : Nat) : Prop where
  t : (areaOf S r c).t = r
  l : (areaOf S r c).l = c
  ok : (areaOf S r c).Ok
  pin : (areaOf S r c).t ≤ p ∧ p ≤ (areaOf S r c).b
  qin : (areaOf S r c).l ≤ q ∧ q ≤ (areaOf S r c).r
  hp : S.hr p = false
  hq : S.hc q = false
theorem area_shows {S : Sh} {V : Vw} (hS : S.Ok) (hV : V.Ok) {y x : Nat} (hy : y < 24) (hx : x < 80) (h : ownsAt S V y x = true) : AreaShows S (rowAt S V y x) (colAt S V y x) (lnR S V y).toNat (lnC S V x).toNat := by
  obtain ⟨h1, h2⟩ := ownsAt_iff.1 h
  have hl := at_lt hS h
  have ha := own_area hS (lnR S V y).toNat (lnC S V x).toNat
  rcases lnR_cases S V y with e | ⟨i, i1, i2⟩
  · omega
  · rcases lnC_cases S V x with e | ⟨j, j1, j2⟩
    · omega
    · have s1 : 0 < rowSz S i := ln_size hV.r hV.sr hy i1 i2
      have s2 : 0 < colSz S j := ln_size hV.c hV.sc hx j1 j2
      refine ⟨ha.1, ha.2.1, areaOf_ok hS hl.1 hl.2, ⟨ha.2.2.1, ha.2.2.2.1⟩, ⟨ha.2.2.2.2.1, ha.2.2.2.2.2.1⟩, ?_, ?_⟩
      · rw [i2]
        show S.hr i = false
        unfold rowSz at s1
        split at s1
        · rename_i hc; exact hc.2
        · omega
      · rw [j2]
        show S.hc j = false
        unfold colSz at s2
        split at s2
        · rename_i hc; exact hc.2
        · omega
theorem hit_own {S : Sh} {V : Vw} {y x : Nat} (hy : y < 24) (hx : x < 80) : (ownsAt S V y x = true → hitOf S V (y : Int) (x : Int) = some (rowAt S V y x, colAt S V y x)) ∧ (ownsAt S V y x = false → hitOf S V (y : Int) (x : Int) = none) := by
  unfold hitOf
  simp only [Int.toNat_natCast]
  constructor
  · intro h
    obtain ⟨h1, h2⟩ := ownsAt_iff.1 h
    rw [if_pos ⟨by omega, by omega, by omega, by omega, h1, h2⟩]
    rfl
  · intro h
    exact if_neg (fun hh => by
      rw [ownsAt_iff.2 ⟨hh.2.2.2.2.1, hh.2.2.2.2.2⟩] at h
      cases h)
end Go.Proofs.Qxb6500653a
