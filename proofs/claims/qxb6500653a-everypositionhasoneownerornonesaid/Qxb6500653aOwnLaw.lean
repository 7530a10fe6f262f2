/-
  EveryPosition: who owns a position of the frame.
-/
import Derived.Test.Qxb6500653aPairs
import Derived.Test.Qxb6500653aAxLaw
import Derived.Test.Qxb6500653aRevPre
namespace Go.Proofs.Qxb6500653a
open Go.RowKit

/-- drawing changes no owner -/
theorem runD_own : ∀ (ds : List Dr) (L : Nat → Spot) (x : Nat), (runD L ds x).own = (L x).own ∧ (runD L ds x).oR = (L x).oR ∧ (runD L ds x).oC = (L x).oC
  | [], _, _ => ⟨rfl, rfl, rfl⟩
  | d :: r, L, x => by
    have h := runD_own r (Dr.on L d) x
    have e : (Dr.on L d x).own = (L x).own ∧ (Dr.on L d x).oR = (L x).oR ∧ (Dr.on L d x).oC = (L x).oC := by
      unfold Dr.on drawOn
      split <;> exact ⟨rfl, rfl, rfl⟩
    exact ⟨h.1.trans e.1, h.2.1.trans e.2.1, h.2.2.trans e.2.2⟩
/-- does a cell own the position? -/
def ownsAt (S : Sh) (V : Vw) (y x : Nat) : Bool := decide (0 ≤ lnR S V y) && decide (0 ≤ lnC S V x)
def rowAt (S : Sh) (V : Vw) (y x : Nat) : Nat := ownR S.mg (lnR S V y).toNat (lnC S V x).toNat
def colAt (S : Sh) (V : Vw) (y x : Nat) : Nat := ownC S.mg (lnR S V y).toNat (lnC S V x).toNat
theorem ownsAt_iff {S : Sh} {V : Vw} {y x : Nat} : ownsAt S V y x = true ↔ 0 ≤ lnR S V y ∧ 0 ≤ lnC S V x := by
  unfold ownsAt
  simp
theorem lineOw_own (S : Sh) (V : Vw) {y x : Nat} (hx : x < 80) : (ownsAt S V y x = true → lineOw S V y x = { Spot.zero with own := true, oR := rowAt S V y x, oC := colAt S V y x }) ∧ (ownsAt S V y x = false → lineOw S V y x = Spot.zero) := by
  have hs : struck blank 0 80 x = Spot.zero := by
    unfold struck
    exact if_pos ⟨by omega, hx⟩
  unfold lineOw
  constructor
  · intro h
    obtain ⟨h1, h2⟩ := ownsAt_iff.1 h
    rw [if_neg (by omega)]
    unfold ownLine
    rw [if_pos ⟨by omega, hx, h2⟩, hs]
    rfl
  · intro h
    have h' : ¬ (0 ≤ lnR S V y ∧ 0 ≤ lnC S V x) := fun hh => by
      rw [ownsAt_iff.2 hh] at h; cases h
    by_cases hl : lnR S V y < 0
    · rw [if_pos hl]
      exact hs
    · rw [if_neg hl]
      unfold ownLine
      rw [if_neg (fun hh => h' ⟨by omega, hh.2.2⟩), hs]
/-- no text stands where no column shows -/
theorem ds_none {S : Sh} {V : Vw} (hV : V.Ok) {y x : Nat} (hx : x < 80) (h : ownsAt S V y x = false) : (lineDs S V y).find? (fun d => d.has x) = none := by
  have h' : ¬ (0 ≤ lnR S V y ∧ 0 ≤ lnC S V x) := fun hh => by
    rw [ownsAt_iff.2 hh] at h; cases h
  by_cases hl : lnR S V y < 0
  · unfold lineDs
    rw [if_pos hl]
    rfl
  · have hc : ¬ (0 ≤ lnC S V x) := fun hh => h' ⟨by omega, hh⟩
    have hhi : ¬ x < hiOf 26 80 V.fc V.sc (colSz S) := fun hh => hc ((ln_hi hV.c hV.sc hx).2 hh)
    have hed : ¬ x < edgeOf 80 V.fc (colSz S) := fun hh => hhi (by
      have h1 := sums_mono (colSz S) hV.c
      have h2 := sums_mono (colSz S) (show V.sc ≤ 26 by have := hV.sc; omega)
      unfold hiOf
      omega)
    have hb : ∀ i, ¬ (x : Int) < ((colAx S V 0 0 0).bHi i : Int) := fun i hh => by
      have e : (colAx S V 0 0 0).bHi i = if i = 0 then edgeOf 80 V.fc (colSz S) else hiOf 26 80 V.fc V.sc (colSz S) := rfl
      rw [e] at hh
      split at hh <;> omega
    refine List.find?_eq_none.2 fun d hd hh => ?_
    have hd2 := of_decide_eq_true hh
    unfold lineDs at hd
    rw [if_neg hl] at hd
    rcases List.mem_append.1 hd with hd | hd
    · have fin : ∀ i, d ∈ rowDs S V i (lnR S V y).toNat 0 80 ((colAx S V 0 0 0).bEn i - (colAx S V 0 0 0).bFi i) → False := fun i hm => by
        obtain ⟨j, _, _, _, rfl⟩ := mem_colD hm
        have := (colD_hi (S := S) (V := V) (i := i) (row := (lnR S V y).toNat) (c := (colAx S V 0 0 0).bFi i + j)).2
        have := hb i
        omega
      split at hd
      · rcases List.mem_append.1 hd with hd | hd
        · exact fin 0 hd
        · exact fin 1 hd
      · cases hd
    · obtain ⟨a, _, hm⟩ := mem_mergeDs hd
      have e := mem_mergeD' hm
      subst e
      have := (mergD_hi (S := S) (V := V) (a := a) (i := homeI (colAx S V 0 0 0) a.l a.r)).2
      have := hb (homeI (colAx S V 0 0 0) a.l a.r)
      omega
/-- the frame's owners -/
structure FOwn (F : Nat → Nat → Spot) (S : Sh) (V : Vw) : Prop where
  own : ∀ y x, x < 80 → (F y x).own = ownsAt S V y x
  row : ∀ y x, x < 80 → ownsAt S V y x = true → (F y x).oR = rowAt S V y x
  col : ∀ y x, x < 80 → ownsAt S V y x = true → (F y x).oC = colAt S V y x
  zero : ∀ y x, x < 80 → ownsAt S V y x = false → F y x = Spot.zero
theorem frame_own {S : Sh} {V : Vw} (hV : V.Ok) : FOwn (frameOf S V) S V := by
  refine ⟨fun y x hx => ?_, fun y x hx h => ?_, fun y x hx h => ?_, fun y x hx h => ?_⟩
  · rw [frameOf_run, (runD_own _ _ _).1]
    cases h : ownsAt S V y x with
    | true => rw [(lineOw_own S V hx).1 h]
    | false => rw [(lineOw_own S V hx).2 h]; rfl
  · rw [frameOf_run, (runD_own _ _ _).2.1, (lineOw_own S V hx).1 h]
  · rw [frameOf_run, (runD_own _ _ _).2.2, (lineOw_own S V hx).1 h]
  · rw [frameOf_run]
    have hf := runD_find (lineDs S V y) (L := lineOw S V y) (x := x) (lineOw_clean S V y x)
    rw [ds_none hV hx h] at hf
    rw [hf, (lineOw_own S V hx).2 h]

/-! ### merges -/
theorem mergeAt_one {S : Sh} (hS : S.Ok) {a : Ar} (ha : a ∈ S.mg) {r c : Nat} (h : a.has r c = true) : mergeAt S.mg r c = some a := by
  cases hm : mergeAt S.mg r c with
  | none =>
    unfold mergeAt at hm
    have := List.find?_eq_none.1 hm a ha
    exact absurd h this
  | some b =>
    have hb : b.has r c = true := List.find?_some (p := fun x : Ar => x.has r c) hm
    have hbm : b ∈ S.mg := List.mem_of_find?_eq_some hm
    have hmeet := has_meets h hb
    have hmeet' := has_meets hb h
    obtain ⟨i, hi, rfl⟩ := List.getElem_of_mem ha
    obtain ⟨j, hj, rfl⟩ := List.getElem_of_mem hbm
    rcases Nat.lt_trichotomy i j with h | h | h
    · exact absurd hmeet (List.pairwise_iff_getElem.1 hS.apart i j hi hj h)
    · subst h; rfl
    · exact absurd hmeet' (List.pairwise_iff_getElem.1 hS.apart j i hj hi h)
theorem has_iff {a : Ar} {r c : Nat} : a.has r c = true ↔ a.t ≤ r ∧ r ≤ a.b ∧ a.l ≤ c ∧ c ≤ a.r := by
  unfold Ar.has
  simp [and_assoc]
theorem mergeAt_mem {S : Sh} {r c : Nat} {a : Ar} (h : mergeAt S.mg r c = some a) : a ∈ S.mg ∧ a.t ≤ r ∧ r ≤ a.b ∧ a.l ≤ c ∧ c ≤ a.r :=
  ⟨List.mem_of_find?_eq_some h, has_iff.1 (List.find?_some (p := fun x : Ar => x.has r c) h)⟩
/-- the owner of a cell, and the owner's area -/
theorem own_area {S : Sh} (hS : S.Ok) (r c : Nat) : (areaOf S (ownR S.mg r c) (ownC S.mg r c)).t = ownR S.mg r c ∧ (areaOf S (ownR S.mg r c) (ownC S.mg r c)).l = ownC S.mg r c ∧
    (areaOf S (ownR S.mg r c) (ownC S.mg r c)).t ≤ r ∧ r ≤ (areaOf S (ownR S.mg r c) (ownC S.mg r c)).b ∧ (areaOf S (ownR S.mg r c) (ownC S.mg r c)).l ≤ c ∧ c ≤ (areaOf S (ownR S.mg r c) (ownC S.mg r c)).r ∧
    ownR S.mg (ownR S.mg r c) (ownC S.mg r c) = ownR S.mg r c ∧ ownC S.mg (ownR S.mg r c) (ownC S.mg r c) = ownC S.mg r c := by
  cases hm : mergeAt S.mg r c with
  | none =>
    obtain ⟨e1, e2⟩ := ownR_none hm
    rw [e1, e2]
    have ea : areaOf S r c = ⟨r, c, r, c⟩ := by unfold areaOf; rw [hm]; rfl
    rw [ea]
    exact ⟨rfl, rfl, Nat.le_refl _, Nat.le_refl _, Nat.le_refl _, Nat.le_refl _, e1, e2⟩
  | some a =>
    obtain ⟨ha, h1, h2, h3, h4⟩ := mergeAt_mem hm
    have e1 : ownR S.mg r c = a.t := by unfold ownR; rw [hm]
    have e2 : ownC S.mg r c = a.l := by unfold ownC; rw [hm]
    have hs := mergeAt_self hS ha
    have ea : areaOf S a.t a.l = a := by unfold areaOf; rw [hs]; rfl
    rw [e1, e2, ea]
    refine ⟨rfl, rfl, h1, h2, h3, h4, ?_, ?_⟩
    · unfold ownR; rw [hs]
    · unfold ownC; rw [hs]
/-- a cell that owns itself owns just the cells of its area -/
theorem area_iff {S : Sh} (hS : S.Ok) {r c p q : Nat} (h1 : ownR S.mg r c = r) (h2 : ownC S.mg r c = c) : ((areaOf S r c).t ≤ p ∧ p ≤ (areaOf S r c).b ∧ (areaOf S r c).l ≤ q ∧ q ≤ (areaOf S r c).r) ↔ ownR S.mg p q = r ∧ ownC S.mg p q = c := by
  constructor
  · intro h
    cases hm : mergeAt S.mg r c with
    | none =>
      have ea : areaOf S r c = ⟨r, c, r, c⟩ := by unfold areaOf; rw [hm]; rfl
      rw [ea] at h
      simp only at h
      have e1 : p = r := by omega
      have e2 : q = c := by omega
      rw [e1, e2]
      exact ⟨h1, h2⟩
    | some a =>
      have ea : areaOf S r c = a := by unfold areaOf; rw [hm]; rfl
      rw [ea] at h
      have ha := (mergeAt_mem hm).1
      have hp := mergeAt_one hS ha (has_iff.2 h)
      have e1 : ownR S.mg r c = a.t := by unfold ownR; rw [hm]
      have e2 : ownC S.mg r c = a.l := by unfold ownC; rw [hm]
      constructor
      · have e3 : ownR S.mg p q = a.t := by unfold ownR; rw [hp]
        omega
      · have e3 : ownC S.mg p q = a.l := by unfold ownC; rw [hp]
        omega
  · rintro ⟨e1, e2⟩
    have h := own_area hS p q
    rw [e1, e2] at h
    exact ⟨h.2.2.1, h.2.2.2.1, h.2.2.2.2.1, h.2.2.2.2.2.1⟩
theorem own_lt {S : Sh} (hS : S.Ok) {r c : Nat} (hr : r < 64) (hc : c < 26) : ownR S.mg r c < 64 ∧ ownC S.mg r c < 26 := by
  have h := own_area hS r c
  omega
/-- owners never fall along a row, along a column -/
theorem ownC_mono {S : Sh} (hS : S.Ok) {r c c' : Nat} (h : c ≤ c') : ownC S.mg r c ≤ ownC S.mg r c' := by
  cases hm' : mergeAt S.mg r c' with
  | none =>
    rw [(ownR_none hm').2]
    have := (own_area hS r c).2.2.2.2.1
    have := (own_area hS r c).2.1
    omega
  | some b =>
    obtain ⟨hb, b1, b2, b3, b4⟩ := mergeAt_mem hm'
    have e' : ownC S.mg r c' = b.l := by unfold ownC; rw [hm']
    rw [e']
    by_cases hin : b.l ≤ c
    · have := mergeAt_one hS hb (has_iff.2 ⟨b1, b2, hin, by omega⟩)
      have e : ownC S.mg r c = b.l := by unfold ownC; rw [this]
      omega
    · have := (own_area hS r c).2.2.2.2.1
      have := (own_area hS r c).2.1
      omega
theorem ownR_mono {S : Sh} (hS : S.Ok) {r r' c : Nat} (h : r ≤ r') : ownR S.mg r c ≤ ownR S.mg r' c := by
  cases hm' : mergeAt S.mg r' c with
  | none =>
    rw [(ownR_none hm').1]
    have := (own_area hS r c).2.2.1
    have := (own_area hS r c).1
    omega
  | some b =>
    obtain ⟨hb, b1, b2, b3, b4⟩ := mergeAt_mem hm'
    have e' : ownR S.mg r' c = b.t := by unfold ownR; rw [hm']
    rw [e']
    by_cases hin : b.t ≤ r
    · have := mergeAt_one hS hb (has_iff.2 ⟨hin, by omega, b3, b4⟩)
      have e : ownR S.mg r c = b.t := by unfold ownR; rw [this]
      omega
    · have := (own_area hS r c).2.2.1
      have := (own_area hS r c).1
      omega
end Go.Proofs.Qxb6500653a
