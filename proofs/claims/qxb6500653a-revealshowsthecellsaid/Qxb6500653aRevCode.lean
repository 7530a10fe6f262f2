/-
  RevealShowsTheCell (7): a frame of 305 slots under one letter.
-/
import Derived.Test.Qxb6500653aPlayOk
import Derived.Test.Qxb6500653aScript
namespace Go.Proofs.Qxb6500653a
open Go.RowKit

/-- what a frame holds in some slots -/
def KnowsR (T : Array Value) : List (Nat × Value) → Prop
  | [] => True
  | p :: r => T.getD p.1 undef = p.2 ∧ KnowsR T r
set_option maxRecDepth 100000 in
theorem lit305 (T : Array Value) (h : T.size = 305) : ∃ f : Nat → Value, T = #[f 0, f 1, f 2, f 3, f 4, f 5, f 6, f 7, f 8, f 9, f 10, f 11, f 12, f 13, f 14, f 15, f 16, f 17, f 18, f 19, f 20, f 21, f 22, f 23, f 24, f 25, f 26, f 27, f 28, f 29, f 30, f 31, f 32, f 33, f 34, f 35, f 36, f 37, f 38, f 39, f 40, f 41, f 42, f 43, f 44, f 45, f 46, f 47, f 48, f 49, f 50, f 51, f 52, f 53, f 54, f 55, f 56, f 57, f 58, f 59, f 60, f 61, f 62, f 63, f 64, f 65, f 66, f 67, f 68, f 69, f 70, f 71, f 72, f 73, f 74, f 75, f 76, f 77, f 78, f 79, f 80, f 81, f 82, f 83, f 84, f 85, f 86, f 87, f 88, f 89, f 90, f 91, f 92, f 93, f 94, f 95, f 96, f 97, f 98, f 99, f 100, f 101, f 102, f 103, f 104, f 105, f 106, f 107, f 108, f 109, f 110, f 111, f 112, f 113, f 114, f 115, f 116, f 117, f 118, f 119, f 120, f 121, f 122, f 123, f 124, f 125, f 126, f 127, f 128, f 129, f 130, f 131, f 132, f 133, f 134, f 135, f 136, f 137, f 138, f 139, f 140, f 141, f 142, f 143, f 144, f 145, f 146, f 147, f 148, f 149, f 150, f 151, f 152, f 153, f 154, f 155, f 156, f 157, f 158, f 159, f 160, f 161, f 162, f 163, f 164, f 165, f 166, f 167, f 168, f 169, f 170, f 171, f 172, f 173, f 174, f 175, f 176, f 177, f 178, f 179, f 180, f 181, f 182, f 183, f 184, f 185, f 186, f 187, f 188, f 189, f 190, f 191, f 192, f 193, f 194, f 195, f 196, f 197, f 198, f 199, f 200, f 201, f 202, f 203, f 204, f 205, f 206, f 207, f 208, f 209, f 210, f 211, f 212, f 213, f 214, f 215, f 216, f 217, f 218, f 219, f 220, f 221, f 222, f 223, f 224, f 225, f 226, f 227, f 228, f 229, f 230, f 231, f 232, f 233, f 234, f 235, f 236, f 237, f 238, f 239, f 240, f 241, f 242, f 243, f 244, f 245, f 246, f 247, f 248, f 249, f 250, f 251, f 252, f 253, f 254, f 255, f 256, f 257, f 258, f 259, f 260, f 261, f 262, f 263, f 264, f 265, f 266, f 267, f 268, f 269, f 270, f 271, f 272, f 273, f 274, f 275, f 276, f 277, f 278, f 279, f 280, f 281, f 282, f 283, f 284, f 285, f 286, f 287, f 288, f 289, f 290, f 291, f 292, f 293, f 294, f 295, f 296, f 297, f 298, f 299, f 300, f 301, f 302, f 303, f 304] ∧ ∀ i, T.getD i undef = f i := by
  refine ⟨fun i => T.getD i undef, ?_, fun _ => rfl⟩
  have e : T = ((List.range 305).map (fun i => T.getD i undef)).toArray := by
    refine Array.ext (by simp [h]) fun i h1 h2 => ?_
    simp only [List.getElem_toArray, List.getElem_map, List.getElem_range]
    simp [Array.getD, h1]
  generalize (fun i => T.getD i undef) = f at e ⊢
  exact e.trans (by kernel_rfl)
/-- the loop's state -/
def RevI (qb sb lb pb b off n cap : Nat) (w1 : World) (a' : Act) (wq : World) : Prop :=
  ∃ (T : Array Value) (k : Nat) (S : Sh) (V : Vw), a' = ⟨T, []⟩ ∧ T.size = 305 ∧ KnowsR T [(3, .pointer (some ⟨qb, 0, none⟩)), (22, .slice (some ⟨b, off, none⟩) n cap), (23, .int .i64 (n : Int)), (24, .int .i64 (k : Int))] ∧ k ≤ n ∧ GameAt wq qb sb lb S V ∧ (S.steps = k ∧ S.pb = pb) ∧ Kp no w1 wq
end Go.Proofs.Qxb6500653a
