/-
  What the laws' walks are told of the player's step.
-/
import Derived.Test.Qxb6500653aPlayB
namespace Go.Proofs.Qxb6500653a
open Go.RowKit
def PlayOk : Prop := ∀ (w : World) (qb sb lb : Nat) (S : Sh) (V : Vw), GameAt w qb sb lb S V → S.steps < 1000000 → ∀ (o : Od), o.text.size ≤ 65536 →
    Calls Try.prog 10 #[.pointer (some ⟨qb, 0, none⟩), .agg #[.int .i64 o.kind, .int .i64 o.a, .int .i64 o.b, .int .i64 o.c, .int .i64 o.d, .string o.text]] w (PlayPost qb sb lb S V o w)
end Go.Proofs.Qxb6500653a
