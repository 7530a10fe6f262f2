/-
  The sheet, written.
-/
import Derived.Test.Qxb6500653aView
namespace Go.Proofs.Qxb6500653a
open Go.RowKit

theorem SheetAt.pb_ne {w : World} {sb : Nat} {S : Sh} (h : SheetAt w sb S) : S.pb ≠ sb := fun e => by
  obtain ⟨c, hc⟩ := h.map
  have := h.mg
  rw [e] at hc
  simp [World.cell?, hc] at this
theorem SheetAt.mb_ne {w : World} {sb : Nat} {S : Sh} (h : SheetAt w sb S) {g : Nat} (hg : S.mv.ownBlock = some g) : g ≠ sb := by
  have := (h.mrow.lt g hg).1
  omega

/-- one cell of the sheet's own block is written: what is left to say of the others -/
theorem SheetAt.setAny {w : World} {sb : Nat} {S : Sh} (h : SheetAt w sb S) (o : Nat) (v : Value) {u : Value} (hu : w.cell? ⟨sb, o, none⟩ = some u) (S' : Sh)
    (e1 : ∀ c, c < 26 → (if c = o then v else .int .i64 (S.wd c : Int)) = .int .i64 (S'.wd c : Int))
    (e2 : ∀ r, r < 64 → (if 26 + r = o then v else .int .i64 (S.ht r : Int)) = .int .i64 (S'.ht r : Int))
    (e3 : ∀ r, r < 64 → (if 90 + r = o then v else .bool (S.hr r)) = .bool (S'.hr r))
    (e4 : ∀ c, c < 26 → (if 154 + c = o then v else .bool (S.hc c)) = .bool (S'.hc c))
    (e5 : o ≠ 180) (e6 : o ≠ 181) (e7 : (if 182 = o then v else .int .u64 (S.steps : Int)) = .int .u64 (S'.steps : Int))
    (f1 : S'.mg = S.mg) (f2 : S'.es = S.es) (f3 : S'.mv = S.mv) (f4 : S'.pb = S.pb) : SheetAt (w.setCell ⟨sb, o, none⟩ v) sb S' := by
  have k : Kp (one sb) w (w.setCell ⟨sb, o, none⟩ v) := Kp.set _ _ rfl
  have g : ∀ j x, w.cell? ⟨sb, j, none⟩ = some x → (w.setCell ⟨sb, o, none⟩ v).cell? ⟨sb, j, none⟩ = some (if j = o then v else x) := fun j x hx => by
    by_cases e : j = o
    · subst e; rw [if_pos rfl]; exact cset_eq _ _ _ _ hu
    · rw [if_neg e]; exact keepc (Ne.symm e) hx
  refine ⟨fun c hc => ?_, fun c hc => ?_, fun c hc => ?_, fun c hc => ?_, ?_, ?_, ?_, ?_, ?_, fun j => ?_, ?_⟩
  · rw [← e1 c hc]; exact g _ _ (h.wd c hc)
  · rw [← e2 c hc]; exact g _ _ (h.ht c hc)
  · rw [← e3 c hc]; exact g _ _ (h.hr c hc)
  · rw [← e4 c hc]; exact g _ _ (h.hc c hc)
  · rw [f3]; exact keepc e5 h.mg
  · rw [f1, f3]
    exact h.mrow.kept k.grown (by
      cases hb : S.mv.ownBlock with
      | none => exact Or.inl rfl
      | some b => exact Or.inr fun e => h.mb_ne hb (Option.some.inj e))
  · rw [f4]; exact keepc e6 h.mp
  · rw [f2, f4]
    obtain ⟨c, hc⟩ := h.map
    exact ⟨c, (k.block _ h.pb_lt h.pb_ne).trans hc⟩
  · rw [← e7]; exact g _ _ h.st
  · rw [World.frozen?_setCell]; exact h.free j
  · rw [f1, f3]; exact h.mnil

def Sh.tick (S : Sh) : Sh := { S with steps := S.steps + 1 }
theorem SheetAt.tick {w : World} {sb : Nat} {S : Sh} (h : SheetAt w sb S) : SheetAt (w.setCell ⟨sb, 182, none⟩ (.int .u64 ((S.steps : Int) + 1))) sb S.tick :=
  h.setAny 182 _ h.st S.tick (fun c hc => by rw [if_neg (by omega)]; rfl) (fun c hc => by rw [if_neg (by omega)]; rfl) (fun c hc => by rw [if_neg (by omega)]; rfl) (fun c hc => by rw [if_neg (by omega)]; rfl) (by decide) (by decide) (by rw [if_pos rfl]; rfl) rfl rfl rfl rfl
theorem SheetAt.setWd {w : World} {sb : Nat} {S : Sh} (h : SheetAt w sb S) {a b : Nat} (ha : a < 26) : SheetAt (w.setCell ⟨sb, a, none⟩ (.int .i64 (b : Int))) sb { S with wd := fun k => if k = a then b else S.wd k } :=
  h.setAny a _ (h.wd a ha) _ (fun c hc => by show _ = Value.int .i64 (((if c = a then b else S.wd c : Nat)) : Int); by_cases e : c = a <;> simp [e]) (fun c hc => by rw [if_neg (by omega)]) (fun c hc => by rw [if_neg (by omega)]) (fun c hc => by rw [if_neg (by omega)]) (by omega) (by omega) (by rw [if_neg (by omega)]) rfl rfl rfl rfl
theorem SheetAt.setHt {w : World} {sb : Nat} {S : Sh} (h : SheetAt w sb S) {a b : Nat} (ha : a < 64) : SheetAt (w.setCell ⟨sb, 26 + a, none⟩ (.int .i64 (b : Int))) sb { S with ht := fun k => if k = a then b else S.ht k } :=
  h.setAny (26 + a) _ (h.ht a ha) _ (fun c hc => by rw [if_neg (by omega)]) (fun c hc => by show _ = Value.int .i64 (((if c = a then b else S.ht c : Nat)) : Int); by_cases e : c = a <;> simp [e]) (fun c hc => by rw [if_neg (by omega)]) (fun c hc => by rw [if_neg (by omega)]) (by omega) (by omega) (by rw [if_neg (by omega)]) rfl rfl rfl rfl
theorem SheetAt.setHr {w : World} {sb : Nat} {S : Sh} (h : SheetAt w sb S) {a : Nat} {b : Bool} (ha : a < 64) : SheetAt (w.setCell ⟨sb, 90 + a, none⟩ (.bool b)) sb { S with hr := fun k => if k = a then b else S.hr k } :=
  h.setAny (90 + a) _ (h.hr a ha) _ (fun c hc => by rw [if_neg (by omega)]) (fun c hc => by rw [if_neg (by omega)]) (fun c hc => by show _ = Value.bool (if c = a then b else S.hr c); by_cases e : c = a <;> simp [e]) (fun c hc => by rw [if_neg (by omega)]) (by omega) (by omega) (by rw [if_neg (by omega)]) rfl rfl rfl rfl
theorem SheetAt.setHc {w : World} {sb : Nat} {S : Sh} (h : SheetAt w sb S) {a : Nat} {b : Bool} (ha : a < 26) : SheetAt (w.setCell ⟨sb, 154 + a, none⟩ (.bool b)) sb { S with hc := fun k => if k = a then b else S.hc k } :=
  h.setAny (154 + a) _ (h.hc a ha) _ (fun c hc => by rw [if_neg (by omega)]) (fun c hc => by rw [if_neg (by omega)]) (fun c hc => by rw [if_neg (by omega)]) (fun c hc => by show _ = Value.bool (if c = a then b else S.hc c); by_cases e : c = a <;> simp [e]) (by omega) (by omega) (by rw [if_neg (by omega)]) rfl rfl rfl rfl

/-- the sheet's own blocks -/
def shX (sb : Nat) (S : Sh) : Nat → Prop := fun k => k = sb ∨ k = S.pb ∨ S.mv.ownBlock = some k
/-- the map's entries bear stamps of their own -/
def Born (w : World) (S : Sh) : Prop := ∃ clock, w.heap[S.pb]? = some (.map S.es.toArray clock) ∧ (∀ x ∈ S.es, x.born < clock) ∧ (S.es.map (·.born)).Nodup
theorem Born.kp {X : Nat → Prop} {w w' : World} {S : Sh} (h : Born w S) (k : Kp X w w') (hx : ¬ X S.pb) (S' : Sh) (e1 : S'.pb = S.pb) (e2 : S'.es = S.es) : Born w' S' := by
  obtain ⟨c, hc, h1, h2⟩ := h
  have hlt : S.pb < w.heap.size := by
    rcases Nat.lt_or_ge S.pb w.heap.size with h' | h'
    · exact h'
    · rw [Array.getElem?_eq_none h'] at hc; simp at hc
  exact ⟨c, by rw [e1, e2, k.block _ hlt hx]; exact hc, by rw [e2]; exact h1, by rw [e2]; exact h2⟩
theorem Born.one {w w' : World} {sb : Nat} {S : Sh} (h : SheetAt w sb S) (k : Kp (one sb) w w') (S' : Sh) (e1 : S'.pb = S.pb) (e2 : S'.es = S.es) (hb : Born w S) : Born w' S' := hb.kp k h.pb_ne S' e1 e2
/-- what Step leaves -/
def StepPost (sb : Nat) (S : Sh) (kind : Int) (w : World) (e : Ending) (w' : World) : Prop :=
  ∃ (cd : Int) (S' : Sh), e = .returned (.tuple #[.int .i64 cd, .bool (decide (0 ≤ kind) && decide (kind ≤ 6))]) ∧ Kp (shX sb S) w w' ∧ SheetAt w' sb S' ∧ S'.Ok ∧ S'.steps = S.steps + 1 ∧ S'.pb = S.pb ∧ (¬ (0 ≤ kind ∧ kind ≤ 6) → S' = S.tick) ∧ (Born w S → Born w' S')
theorem Sh.tick_ok {S : Sh} (h : S.Ok) (hs : S.steps < 1000000) : S.tick.Ok := ⟨h.wd, h.ht, h.few, h.each, h.apart, h.es, by show S.steps + 1 ≤ _; omega⟩
end Go.Proofs.Qxb6500653a
