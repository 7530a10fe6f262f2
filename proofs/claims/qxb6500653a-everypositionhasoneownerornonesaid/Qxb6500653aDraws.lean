/-
  A LINE AS A LIST OF DRAWINGS, in their order: what stands at a position is the first that has it. (For ReachCoversTheText.)
-/
import Derived.Test.Qxb6500653aRepLaw
namespace Go.Proofs.Qxb6500653a
open Go.RowKit

/-- one drawing: the cell, the text, where it begins, from where and up to where it may stand -/
structure Dr where
  r : Nat
  c : Nat
  t : ByteArray
  s : Int
  lo : Int
  hi : Int
def Dr.has (d : Dr) (x : Nat) : Bool := decide (max d.s d.lo ≤ (x : Int) ∧ (x : Int) < min (d.s + d.t.size) d.hi)
def Dr.on (L : Nat → Spot) (d : Dr) : Nat → Spot := drawOn L d.r d.c d.t d.s d.lo d.hi
def runD (L : Nat → Spot) (ds : List Dr) : Nat → Spot := ds.foldl Dr.on L
theorem runD_append (L : Nat → Spot) (a b : List Dr) : runD L (a ++ b) = runD (runD L a) b := by unfold runD; rw [List.foldl_append]
theorem on_not {L : Nat → Spot} {d : Dr} {x : Nat} (h : d.has x = false) : Dr.on L d x = L x := by
  unfold Dr.on drawOn
  exact if_neg (fun h' => by
    have : d.has x = true := decide_eq_true ⟨h'.1, h'.2.1⟩
    rw [h] at this
    cases this)
theorem on_drawn {L : Nat → Spot} {d : Dr} {x : Nat} (h : (L x).drawn = true) : Dr.on L d x = L x := by
  unfold Dr.on drawOn
  exact if_neg (fun h' => by rw [h] at h'; cases h'.2.2)
theorem on_has {L : Nat → Spot} {d : Dr} {x : Nat} (h : d.has x = true) (h0 : (L x).drawn = false) : (Dr.on L d x).drawn = true ∧ (Dr.on L d x).fR = d.r ∧ (Dr.on L d x).fC = d.c := by
  unfold Dr.on drawOn
  have h' := of_decide_eq_true h
  rw [if_pos ⟨h'.1, h'.2, h0⟩]
  exact ⟨rfl, rfl, rfl⟩
theorem runD_drawn : ∀ (ds : List Dr) {L : Nat → Spot} {x : Nat}, (L x).drawn = true → runD L ds x = L x
  | [], _, _, _ => rfl
  | d :: r, L, x, h => by
    have e := on_drawn (d := d) h
    show runD (Dr.on L d) r x = _
    rw [runD_drawn r (by rw [e]; exact h), e]
/-- what stands at a position: the first drawing that has it -/
theorem runD_find : ∀ (ds : List Dr) {L : Nat → Spot} {x : Nat}, (L x).drawn = false →
    match ds.find? (fun d => d.has x) with
    | some d => (runD L ds x).drawn = true ∧ (runD L ds x).fR = d.r ∧ (runD L ds x).fC = d.c
    | none => runD L ds x = L x
  | [], _, _, _ => rfl
  | d :: r, L, x, h => by
    cases hd : d.has x with
    | true =>
      have hf : (d :: r).find? (fun d => d.has x) = some d := by simp [hd]
      rw [hf]
      obtain ⟨h1, h2, h3⟩ := on_has hd h
      show (runD (Dr.on L d) r x).drawn = true ∧ (runD (Dr.on L d) r x).fR = d.r ∧ (runD (Dr.on L d) r x).fC = d.c
      rw [runD_drawn r h1]
      exact ⟨h1, h2, h3⟩
    | false =>
      have hf0 : (d :: r).find? (fun d => d.has x) = r.find? (fun d => d.has x) := by simp [hd]
      rw [hf0]
      have e := on_not (L := L) hd
      have ih := runD_find r (L := Dr.on L d) (x := x) (by rw [e]; exact h)
      show match r.find? (fun d => d.has x) with
        | some d' => (runD (Dr.on L d) r x).drawn = true ∧ (runD (Dr.on L d) r x).fR = d'.r ∧ (runD (Dr.on L d) r x).fC = d'.c
        | none => runD (Dr.on L d) r x = L x
      cases hf : r.find? (fun d => d.has x) with
      | some d' => rw [hf] at ih; exact ih
      | none => rw [hf] at ih; exact ih.trans e

/-- the drawings of one column's turn -/
noncomputable def stepDs (S : Sh) (V : Vw) (i row : Nat) (x0 x1 : Int) (c : Nat) : List Dr :=
  if passB S row c = true ∨ (mergeAt S.mg row c).isSome = true then []
  else [⟨row, c, cellT S V row c, cellS S V row c, max (max (cellL S V i row c) ((colAx S V 0 0 0).bLo i)) x0, min (min (cellR S V i row c) ((colAx S V 0 0 0).bHi i)) x1⟩]
noncomputable def rowDs (S : Sh) (V : Vw) (i row : Nat) (x0 x1 : Int) : Nat → List Dr
  | 0 => []
  | k + 1 => rowDs S V i row x0 x1 k ++ stepDs S V i row x0 x1 ((colAx S V 0 0 0).bFi i + k)
theorem rowK_run (S : Sh) (V : Vw) (i row : Nat) (x0 x1 : Int) (L : Nat → Spot) : ∀ k, rowK S V i row x0 x1 L k = runD L (rowDs S V i row x0 x1 k)
  | 0 => rfl
  | k + 1 => by
    show rowStep S V i row x0 x1 (rowK S V i row x0 x1 L k) _ = _
    rw [rowK_run S V i row x0 x1 L k]
    show _ = runD L (rowDs S V i row x0 x1 k ++ stepDs S V i row x0 x1 _)
    rw [runD_append]
    unfold rowStep stepDs
    split <;> rfl
/-- the drawings of one merge's turn -/
noncomputable def mergeD (S : Sh) (V : Vw) (y x0 x1 : Nat) (a : Ar) : List Dr :=
  if tlOk (rowAx S V 0 0 0) a.t a.b = true ∧ tlY (rowAx S V 0 0 0) a.t a.b = (y : Int) then
    [⟨a.t, a.l, placeT (shown S.es a.t a.l) ((colAx S V 0 0 0).spanB (homeI (colAx S V 0 0 0) a.l a.r) a.l a.r).1 ((colAx S V 0 0 0).spanB (homeI (colAx S V 0 0 0) a.l a.r) a.l a.r).2,
      placeS (shown S.es a.t a.l) ((colAx S V 0 0 0).spanB (homeI (colAx S V 0 0 0) a.l a.r) a.l a.r).1 ((colAx S V 0 0 0).spanB (homeI (colAx S V 0 0 0) a.l a.r) a.l a.r).2,
      max (max ((colAx S V 0 0 0).spanB (homeI (colAx S V 0 0 0) a.l a.r) a.l a.r).1 ((colAx S V 0 0 0).bLo (homeI (colAx S V 0 0 0) a.l a.r))) x0,
      min (min ((colAx S V 0 0 0).spanB (homeI (colAx S V 0 0 0) a.l a.r) a.l a.r).2 ((colAx S V 0 0 0).bHi (homeI (colAx S V 0 0 0) a.l a.r))) x1⟩]
  else []
theorem mergeStep_run (S : Sh) (V : Vw) (y x0 x1 : Nat) (L : Nat → Spot) (a : Ar) : mergeStep S V y x0 x1 L a = runD L (mergeD S V y x0 x1 a) := by
  unfold mergeStep mergeD
  split <;> rfl
noncomputable def mergeDs (S : Sh) (V : Vw) (y x0 x1 : Nat) : Nat → List Dr
  | 0 => []
  | k + 1 => mergeDs S V y x0 x1 k ++ (match S.mg[k]? with
    | some a => mergeD S V y x0 x1 a
    | none => [])
theorem mergeLine_run (S : Sh) (V : Vw) (y x0 x1 : Nat) (L : Nat → Spot) : ∀ k, mergeLine S V y x0 x1 L k = runD L (mergeDs S V y x0 x1 k)
  | 0 => rfl
  | k + 1 => by
    unfold mergeLine mergeDs
    rw [runD_append, ← mergeLine_run S V y x0 x1 L k]
    cases S.mg[k]? with
    | some a => exact mergeStep_run S V y x0 x1 _ a
    | none => rfl
/-- all the drawings of a line -/
noncomputable def lineDs (S : Sh) (V : Vw) (y : Nat) : List Dr :=
  if lnR S V y < 0 then []
  else (if (rowAx S V 0 0 0).st (lnR S V y).toNat = (y : Int) then rowDs S V 0 (lnR S V y).toNat 0 80 ((colAx S V 0 0 0).bEn 0 - (colAx S V 0 0 0).bFi 0) ++ rowDs S V 1 (lnR S V y).toNat 0 80 ((colAx S V 0 0 0).bEn 1 - (colAx S V 0 0 0).bFi 1) else []) ++ mergeDs S V y 0 80 S.mg.length
/-- the line before its texts -/
noncomputable def lineOw (S : Sh) (V : Vw) (y : Nat) : Nat → Spot := if lnR S V y < 0 then struck blank 0 80 else ownLine S V (lnR S V y).toNat 0 80 (struck blank 0 80)
theorem frameOf_run (S : Sh) (V : Vw) (y : Nat) : frameOf S V y = runD (lineOw S V y) (lineDs S V y) := by
  unfold frameOf paintOf lineOw lineDs
  split
  · rfl
  · rw [runD_append, mergeLine_run]
    congr 1
    unfold textLine2
    split
    · rw [runD_append]
      unfold rowAll
      rw [rowK_run, rowK_run]
      rfl
    · rfl
theorem lineOw_clean (S : Sh) (V : Vw) (y x : Nat) : (lineOw S V y x).drawn = false := by
  have hs : (struck blank 0 80 x).drawn = false := by unfold struck; split <;> rfl
  unfold lineOw
  split
  · exact hs
  · unfold ownLine
    split
    · exact hs
    · exact hs
end Go.Proofs.Qxb6500653a
