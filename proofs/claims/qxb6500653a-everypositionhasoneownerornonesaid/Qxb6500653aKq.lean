/-
  A REGION THAT DRAWS ITS ORDER, whose operations only read and whose callees leave all that was ('Kp no'): one walk, in the order of the text.
-/
import Derived.Test.Qxb6500653aWk
namespace Go.Proofs.Qxb6500653a
open Go.RowKit

/-- a world that keeps all of w -/
structure KpOf (w : World) where
  to : World
  h : Kp no w to
instance (w : World) : Inhabited (KpOf w) := ⟨⟨w, Kp.refl _ _⟩⟩
theorem wp_region_kp {P : Program} {id : Nat} {Q : Exit → Act → World → Prop} {a : Act} {w : World} {l : List Oper} (hm : P.follows .mixedOrders = true) (hB : Region.lexB .any l.toArray = true)
    (h : wpQuiet P l.toArray (fun w' => ∃ p : KpOf w, w' = p.to) (fun a' => ∀ w', (∃ p : KpOf w, w' = p.to) → Q .normal a' w') l a) : (Code.region id l.toArray true).wp P Q a w :=
  wp_region_quiet (C := fun w' => ∃ p : KpOf w, w' = p.to) hm hB ⟨⟨w.drew, (Kp.refl _ _).drew⟩, rfl⟩ (by simpa using h)
theorem kp_of {P : Program} {f : FuncId} {args : Array Value} {w : World} {p : KpOf w} {v : Value} (h : Calls P f args p.to fun e w' => e = .returned v ∧ Kp no p.to w') : Calls P f args p.to fun e w'' => e = .returned v ∧ ∃ q : KpOf w, w'' = q.to :=
  h.mono fun _ _ ⟨he, hk⟩ => ⟨he, ⟨_, p.h.trans hk⟩, rfl⟩
end Go.Proofs.Qxb6500653a
