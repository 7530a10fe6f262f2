/-
  'codec.insertionSort[[]byte]' (function 29).
-/
import Derived.Test.Qxb6500664aRow
namespace Go.Proofs.Qxb6500664a
open Go.RowKit

def keyV (s : BSl) : Value := .slice s.a s.l.length s.cap
def ev1 (K : Nat → BSl) (t : Nat) : List Value := [.slice (K t).a (K t).l.length (K t).cap]
theorem ev1_len (K : Nat → BSl) (t : Nat) : (ev1 K t).length = 1 := rfl
def keysOf (K : Nat → BSl) (t : Nat) : List UInt8 := (K t).l

theorem RowAt.cast {ty : TypeId} {ev : Nat → List Value} {w : World} {g : Nat} {p p' : List Nat} (h : RowAt ty ev w g p) (e : p = p') : RowAt ty ev w g p' := e ▸ h
theorem cell_row1 {ty : TypeId} {K : Nat → BSl} {w : World} {g : Nat} {A B : List Nat} {x n : Nat} (h : RowAt ty (ev1 K) w g (A ++ x :: B)) (hn : A.length = n) : w.cell? ⟨g, n, none⟩ = some (.slice (K x).a (K x).l.length (K x).cap) := by
  have := h.cell (ev1_len K) 0 (by omega)
  rw [Nat.mul_one, Nat.add_zero, hn] at this
  exact this

/-- what an insertion sort leaves -/
def InsPost (ty : TypeId) (ev : Nat → List Value) (K : Nat → BSl) (w : World) (g : Nat) (pre seg post : List Nat) (e : Ending) (w' : World) : Prop :=
  e = .returned (.tuple #[]) ∧ ∃ seg', seg'.Perm seg ∧ Ord.Srt (keysOf K) seg' ∧ RowAt ty ev w' g (pre ++ (seg' ++ post)) ∧ w.grownBy w' (some g)

set_option maxHeartbeats 1000000 in
theorem ins_bytes (W0 w : World) (K : Nat → BSl) (g P cap : Nat) (pre seg post : List Nat) (hP : pre.length = P) (hinc : seg.Pairwise (· < ·)) (hK : ∀ t ∈ seg, (K t).At W0) (h1 : 1 ≤ seg.length) (hlen : seg.length ≤ 65536)
    (hB0 : W0.heap.size ≤ g) (hbel : Below W0.heap.size W0 w) (hrow : RowAt 27 (ev1 K) w g (pre ++ (seg ++ post))) :
    Calls Try.prog 29 #[.slice (some ⟨g, P, none⟩) seg.length cap, .func (.func 25) #[] #[]] w (InsPost 27 (ev1 K) K w g pre seg post) := by
  have HP : Hid (pre.length = P) := hP
  clear hP
  go_enter Try.func29, Try.ntmps29
  go_wp2
  go_loopw [4] (fun i wr => ∃ (k : Nat) (A : List Nat), i = .int .i64 (k : Int) ∧ InsOut (keysOf K) seg A k ∧ RowAt 27 (ev1 K) wr g (pre ++ (A ++ (seg.drop k ++ post))) ∧ w.grownBy wr (some g)) (fun i _ => seg.length - (intOf i).toNat)
  case atStart => exact ⟨1, seg.take 1, rfl, InsOut.start _ _ h1, hrow.cast (by rw [← List.append_assoc (seg.take 1), List.take_append_drop]), grown_refl _ _⟩
  case round =>
    obtain ⟨k, A, rfl, hout, hr, hgr⟩ := hrel
    have hkle := hout.le
    by_cases hlt : k < seg.length
    · obtain ⟨t, ht⟩ : ∃ t, seg[k]? = some t := ⟨_, List.getElem?_eq_getElem hlt⟩
      have htm : t ∈ seg := List.mem_iff_getElem?.2 ⟨k, ht⟩
      have hin := hout.into hlt ht
      have hAl := hout.length
      have hD : seg.drop k = t :: seg.drop (k + 1) := by rw [List.drop_eq_getElem_cons hlt]; congr 1; rw [List.getElem?_eq_getElem hlt] at ht; exact Option.some.inj ht
      have hr' : RowAt 27 (ev1 K) wr g ((pre ++ A) ++ t :: (seg.drop (k + 1) ++ post)) := hr.cast (by rw [hD]; simp)
      have ct := cell_row1 (n := P + k) hr' (by rw [List.length_append, HP.out, hAl])
      have HIN : Hid (InsIn (keysOf K) seg k t A []) := hin
      have HR : Hid (RowAt 27 (ev1 K) wr g ((pre ++ A) ++ t :: ([] ++ (seg.drop (k + 1) ++ post)))) := hr'
      have HA : Hid (A.length = k) := hAl
      clear hin hD hr hr' hAl ht hout
      go_wp2
      obtain ⟨wo, hwo⟩ : ∃ wo : World, wo = wr := ⟨_, rfl⟩
      clear hwo
      go_loopw [6] (fun j wr => ∃ (m h : Nat) (q r : List Nat), j = .int .i64 (m : Int) ∧ Hid (q.length = m) ∧ InsIn (keysOf K) seg k t q r ∧ RowAt 27 (ev1 K) wr g ((pre ++ q) ++ h :: (r ++ (seg.drop (k + 1) ++ post))) ∧ w.grownBy wr (some g)) (fun j _ => (intOf j).toNat)
      case atStart => exact ⟨k, t, A, [], rfl, HA.out, HIN.out, HR.out, hgr⟩
      case round =>
        obtain ⟨m, h, q, r, rfl, HM, hin, hr, hgr⟩ := hrel
        have hql := hin.length
        have hbW := env_grown hbel hB0 hgr
        have ch := cell_row1 (n := P + m) hr (by rw [List.length_append, HP.out, HM.out])
        have fh := hr.free (P + m)
        have hmk : m ≤ k := by have := HM.out; omega
        clear ct
        cases m with
        | zero =>
          have hq : q = [] := List.eq_nil_of_length_eq_zero HM.out
          have HO : Hid (InsOut (keysOf K) seg (q ++ t :: r) (k + 1)) := hin.done hinc (Or.inl hq)
          have HR2 : Hid (RowAt 27 (ev1 K) (wr.setCell ⟨g, P, none⟩ (.slice (K t).a (K t).l.length (K t).cap)) g (pre ++ ((q ++ t :: r) ++ (seg.drop (k + 1) ++ post)))) := by
            have := (row_set1 (ev1_len K) (t := t) rfl hr).cast (p' := pre ++ ((q ++ t :: r) ++ (seg.drop (k + 1) ++ post))) (by simp)
            rw [List.length_append, HP.out, HM.out] at this
            exact this
          have HG2 : Hid (w.grownBy (wr.setCell ⟨g, P, none⟩ (.slice (K t).a (K t).l.length (K t).cap)) (some g)) := grown_trans hgr (grown_set _)
          simp only [Nat.add_zero] at ch fh
          clear hin hr hgr hq hql HM
          go_wp2
          go_roundw
          case rel => exact ⟨k + 1, q ++ t :: r, by go_num, HO.out, HR2.out, HG2.out⟩
          case measure => simp [intOf]; omega
        | succ m =>
          obtain ⟨q', x, rfl⟩ : ∃ q' x, q = q' ++ [x] := by
            have hne : q ≠ [] := fun e => by have := HM.out; rw [e] at this; simp at this
            exact ⟨q.dropLast, q.getLast hne, (List.dropLast_concat_getLast hne).symm⟩
          have hq' : q'.length = m := by have := HM.out; simp at this; exact this
          have hxm : x ∈ seg := (List.take_subset k seg) (hin.perm.subset (by simp))
          have cx := cell_row1 (A := pre ++ q') (B := h :: (r ++ (seg.drop (k + 1) ++ post))) (x := x) (n := P + m) (hr.cast (by simp)) (by rw [List.length_append, HP.out, hq'])
          have hb1 : m + 1 ≤ 65536 := by omega
          have HQ : Hid (q'.length = m) := hq'
          have HK : Hid ((K t).At wr ∧ (K x).At wr) := ⟨key_in (hK t htm) hbW, key_in (hK x hxm) hbW⟩
          have HIN2 : Hid (InsIn (keysOf K) seg k t (q' ++ [x]) r) := hin
          have HR2 : Hid (RowAt 27 (ev1 K) wr g ((pre ++ (q' ++ [x])) ++ h :: (r ++ (seg.drop (k + 1) ++ post)))) := hr
          clear hin hr hql hq' ch fh
          go_wp2_with fail
          refine (less_bytes _ (K t) (K x) HK.out.1 HK.out.2).mono ?_
          rintro e w1 ⟨rfl, hb⟩
          have hr1 := HR2.out.below hb
          have hg1 := grown_trans hgr (grown_below hb (some g))
          have cx1 := cell_row1 (A := pre ++ q') (B := h :: (r ++ (seg.drop (k + 1) ++ post))) (x := x) (n := P + m) (hr1.cast (by simp)) (by rw [List.length_append, HP.out, HQ.out])
          have ch1 := cell_row1 (n := P + (m + 1)) hr1 (by rw [List.length_append, List.length_append, HP.out, HQ.out]; rfl)
          have fh1 := hr1.free (P + (m + 1))
          by_cases hl : Ord.cmp (K t).l (K x).l < 0
          · have e1 : lessB (K t).l (K x).l = true := by unfold lessB; simpa using hl
            have HI3 : Hid (InsIn (keysOf K) seg k t q' (x :: r)) := HIN2.out.back hl
            have HR3 : Hid (RowAt 27 (ev1 K) (w1.setCell ⟨g, P + (m + 1), none⟩ (.slice (K x).a (K x).l.length (K x).cap)) g ((pre ++ q') ++ x :: ((x :: r) ++ (seg.drop (k + 1) ++ post)))) := by
              have := (row_set1 (ev1_len K) (t := x) rfl hr1).cast (p' := (pre ++ q') ++ x :: ((x :: r) ++ (seg.drop (k + 1) ++ post))) (by simp)
              rw [List.length_append, List.length_append, HP.out, HQ.out] at this
              exact this
            have HG3 : Hid (w.grownBy (w1.setCell ⟨g, P + (m + 1), none⟩ (.slice (K x).a (K x).l.length (K x).cap)) (some g)) := grown_trans hg1 (grown_set _)
            clear hr1 hg1 hl cx
            go_wp2
            go_roundw
            case rel => exact ⟨m, x, q', x :: r, by go_num, HQ.out, HI3.out, HR3.out, HG3.out⟩
            case measure => simp [intOf]
          · have e1 : lessB (K t).l (K x).l = false := by unfold lessB; simpa using hl
            have HO : Hid (InsOut (keysOf K) seg ((q' ++ [x]) ++ t :: r) (k + 1)) := HIN2.out.done hinc (Or.inr ⟨q', x, rfl, hl⟩)
            have HR3 : Hid (RowAt 27 (ev1 K) (w1.setCell ⟨g, P + (m + 1), none⟩ (.slice (K t).a (K t).l.length (K t).cap)) g (pre ++ (((q' ++ [x]) ++ t :: r) ++ (seg.drop (k + 1) ++ post)))) := by
              have := (row_set1 (ev1_len K) (t := t) rfl hr1).cast (p' := pre ++ (((q' ++ [x]) ++ t :: r) ++ (seg.drop (k + 1) ++ post))) (by simp)
              rw [List.length_append, List.length_append, HP.out, HQ.out] at this
              exact this
            have HG3 : Hid (w.grownBy (w1.setCell ⟨g, P + (m + 1), none⟩ (.slice (K t).a (K t).l.length (K t).cap)) (some g)) := grown_trans hg1 (grown_set _)
            clear hr1 hg1 hl cx
            go_wp2
            go_roundw
            case rel => exact ⟨k + 1, (q' ++ [x]) ++ t :: r, by go_num, HO.out, HR3.out, HG3.out⟩
            case measure => simp [intOf]; omega
    · have hk0 : k = seg.length := by omega
      have HF : Hid (∃ seg', seg'.Perm seg ∧ Ord.Srt (keysOf K) seg' ∧ RowAt 27 (ev1 K) wr g (pre ++ (seg' ++ post)) ∧ w.grownBy wr (some g)) := by
        refine ⟨A, ?_, hout.srt, ?_, hgr⟩
        · have := hout.perm; rw [hk0, List.take_length] at this; exact this
        · rw [hk0, List.drop_length] at hr; exact hr
      clear hk0 hout hr hgr
      go_wp2
      go_end0
      exact ⟨rfl, HF.out⟩
end Go.Proofs.Qxb6500664a
