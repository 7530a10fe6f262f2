/-
  'codec.insertionSort[api.Pair]' (function 31): the text of the items' walk, turned.
-/
import Derived.Test.Qxb6500664aInsI
namespace Go.Proofs.Qxb6500664a
open Go.RowKit

/-- a pair: its key and its value -/
def ev3 (K V : Nat → BSl) (t : Nat) : List Value := [.slice (K t).a (K t).l.length (K t).cap, .slice (V t).a (V t).l.length (V t).cap]
theorem ev3_len (K V : Nat → BSl) (t : Nat) : (ev3 K V t).length = 2 := rfl
theorem cells_row3 {ty : TypeId} {K V : Nat → BSl} {w : World} {g : Nat} {A B : List Nat} {x n O P : Nat} (h : RowAt ty (ev3 K V) w g (A ++ x :: B)) (hn : A.length = P + n) (hO : P * 2 = O) :
    w.cell? ⟨g, O + n * 2, none⟩ = some (.slice (K x).a (K x).l.length (K x).cap) ∧ w.cell? ⟨g, O + n * 2 + 1, none⟩ = some (.slice (V x).a (V x).l.length (V x).cap) := by
  have h0 := h.cell (ev3_len K V) 0 (by omega)
  have h1 := h.cell (ev3_len K V) 1 (by omega)
  rw [hn, Nat.add_mul, hO] at h0 h1
  exact ⟨h0, h1⟩

set_option maxHeartbeats 1000000 in
theorem ins_pairs (W0 w : World) (K V : Nat → BSl) (g P O cap : Nat) (pre seg post : List Nat) (hP : pre.length = P) (hO : P * 2 = O) (hinc : seg.Pairwise (· < ·)) (hK : ∀ t ∈ seg, (K t).At W0) (h1 : 1 ≤ seg.length) (hlen : seg.length ≤ 65536)
    (hB0 : W0.heap.size ≤ g) (hbel : Below W0.heap.size W0 w) (hrow : RowAt 37 (ev3 K V) w g (pre ++ (seg ++ post))) :
    Calls Try.prog 31 #[.slice (some ⟨g, O, none⟩) seg.length cap, .func (.func 27) #[] #[]] w (InsPost 37 (ev3 K V) K w g pre seg post) := by
  have HP : Hid (pre.length = P) := hP
  have HO2 : Hid (P * 2 = O) := hO
  clear hP hO
  go_enter Try.func31, Try.ntmps31
  go_wp2
  go_loopw [4] (fun i wr => ∃ (k : Nat) (A : List Nat), i = .int .i64 (k : Int) ∧ InsOut (keysOf K) seg A k ∧ RowAt 37 (ev3 K V) wr g (pre ++ (A ++ (seg.drop k ++ post))) ∧ w.grownBy wr (some g)) (fun i _ => seg.length - (intOf i).toNat)
  case atStart => exact ⟨1, seg.take 1, rfl, InsOut.start _ _ h1, hrow.cast (by rw [← List.append_assoc (seg.take 1), List.take_append_drop]), grown_refl _ _⟩
  case round =>
    obtain ⟨k, A, rfl, hout, hr, hgr⟩ := hrel
    have hkle := hout.le
    by_cases hlt : k < seg.length
    · obtain ⟨t, ht⟩ : ∃ t, seg[k]? = some t := ⟨_, List.getElem?_eq_getElem hlt⟩
      have htm : t ∈ seg := List.mem_iff_getElem?.2 ⟨k, ht⟩
      have hin := hout.into hlt ht
      have hAl := hout.length
      have hD : seg.drop k = t :: seg.drop (k + 1) := by rw [List.drop_eq_getElem_cons hlt]; congr 1; rw [List.getElem?_eq_getElem hlt] at ht; exact Option.some.inj ht
      have hr' : RowAt 37 (ev3 K V) wr g ((pre ++ A) ++ t :: (seg.drop (k + 1) ++ post)) := hr.cast (by rw [hD]; simp)
      have ct := cells_row3 (n := k) (P := P) (O := O) hr' (by rw [List.length_append, HP.out, hAl]) HO2.out
      obtain ⟨ct0, ct1⟩ := ct
      have HIN : Hid (InsIn (keysOf K) seg k t A []) := hin
      have HR : Hid (RowAt 37 (ev3 K V) (wr.alloc (.cells #[(.slice (K t).a (K t).l.length (K t).cap), (.slice (V t).a (V t).l.length (V t).cap)] 37)) g ((pre ++ A) ++ t :: ([] ++ (seg.drop (k + 1) ++ post)))) := hr'.alloc _
      have HA : Hid (A.length = k) := hAl
      have HAS : Hid (Aside2 (wr.alloc (.cells #[(.slice (K t).a (K t).l.length (K t).cap), (.slice (V t).a (V t).l.length (V t).cap)] 37)) g wr.heap.size #[(.slice (K t).a (K t).l.length (K t).cap), (.slice (V t).a (V t).l.length (V t).cap)] 37) := Aside2.born hr'.lt _ _
      have HG : Hid (w.grownBy (wr.alloc (.cells #[(.slice (K t).a (K t).l.length (K t).cap), (.slice (V t).a (V t).l.length (V t).cap)] 37)) (some g)) := grown_alloc hgr _
      clear hin hD hr hr' hAl ht hout
      go_wp2
      obtain ⟨n0, hn0⟩ : ∃ n0, n0 = wr.heap.size := ⟨_, rfl⟩
      obtain ⟨wo, hwo⟩ : ∃ wo : World, wo = wr := ⟨_, rfl⟩
      rw [← hwo] at HR HAS HG hn0 ⊢
      clear hwo
      rw [← hn0] at HAS ⊢
      clear hn0 hgr ct0 ct1
      go_loopw [6] (fun j wr => ∃ (m h : Nat) (q r : List Nat), j = .int .i64 (m : Int) ∧ Hid (q.length = m) ∧ InsIn (keysOf K) seg k t q r ∧ RowAt 37 (ev3 K V) wr g ((pre ++ q) ++ h :: (r ++ (seg.drop (k + 1) ++ post))) ∧ w.grownBy wr (some g) ∧ Aside2 wr g n0 #[(.slice (K t).a (K t).l.length (K t).cap), (.slice (V t).a (V t).l.length (V t).cap)] 37) (fun j _ => (intOf j).toNat)
      case atStart => exact ⟨k, t, A, [], rfl, HA.out, HIN.out, HR.out, HG.out, HAS.out⟩
      case round =>
        obtain ⟨m, h, q, r, rfl, HM, hin, hr, hgr, has⟩ := hrel
        have hql := hin.length
        have hbW := env_grown hbel hB0 hgr
        have ch := cells_row3 (n := m) (P := P) (O := O) hr (by rw [List.length_append, HP.out, HM.out]) HO2.out
        obtain ⟨ch0, ch1⟩ := ch
        have fh0 := hr.free (O + m * 2)
        have fh1 := hr.free (O + m * 2 + 1)
        have i0 : wr.cell? ⟨n0, 0, none⟩ = some (.slice (K t).a (K t).l.length (K t).cap) := has.cell 0
        have i1 : wr.cell? ⟨n0, 1, none⟩ = some (.slice (V t).a (V t).l.length (V t).cap) := has.cell 1
        have hmk : m ≤ k := by have := HM.out; omega
        have HNE : Hid (n0 ≠ g) := has.ne
        cases m with
        | zero =>
          have hq : q = [] := List.eq_nil_of_length_eq_zero HM.out
          have HO : Hid (InsOut (keysOf K) seg (q ++ t :: r) (k + 1)) := hin.done hinc (Or.inl hq)
          have HR2 : Hid (∀ nq, RowAt 37 (ev3 K V) (((wr.drewN nq).setCell ⟨g, O, none⟩ (.slice (K t).a (K t).l.length (K t).cap)).setCell ⟨g, O + 1, none⟩ (.slice (V t).a (V t).l.length (V t).cap)) g (pre ++ ((q ++ t :: r) ++ (seg.drop (k + 1) ++ post)))) := by
            intro nq
            have hr2 : RowAt 37 (ev3 K V) (wr.drewN nq) g ((pre ++ q) ++ h :: (r ++ (seg.drop (k + 1) ++ post))) := ⟨hr.blk⟩
            have := (row_set2' (n := 0) (P := P) (O := O) (ev3_len K V) (t := t) rfl hr2 (by rw [List.length_append, HP.out, HM.out]) HO2.out).cast (p' := pre ++ ((q ++ t :: r) ++ (seg.drop (k + 1) ++ post))) (by simp)
            rw [Nat.zero_mul, Nat.add_zero] at this
            exact this
          have HG2 : Hid (∀ nq, w.grownBy (((wr.drewN nq).setCell ⟨g, O, none⟩ (.slice (K t).a (K t).l.length (K t).cap)).setCell ⟨g, O + 1, none⟩ (.slice (V t).a (V t).l.length (V t).cap)) (some g)) := fun nq => grown_set2 ⟨hgr.os, hgr.tape, hgr.output, hgr.size, hgr.block⟩
          simp only [Nat.zero_mul, Nat.add_zero] at ch0 ch1 fh0 fh1
          clear hin hr hgr hq hql HM has
          go_wp2
          go_quiet (fail)
          go_wp2
          go_roundw
          case rel => exact ⟨k + 1, q ++ t :: r, by go_num, HO.out, HR2.out _, HG2.out _⟩
          case measure => simp [intOf]; omega
        | succ m =>
          obtain ⟨q', x, rfl⟩ : ∃ q' x, q = q' ++ [x] := by
            have hne : q ≠ [] := fun e => by have := HM.out; rw [e] at this; simp at this
            exact ⟨q.dropLast, q.getLast hne, (List.dropLast_concat_getLast hne).symm⟩
          have hq' : q'.length = m := by have := HM.out; simp at this; exact this
          have hxm : x ∈ seg := (List.take_subset k seg) (hin.perm.subset (by simp))
          have cx := cells_row3 (A := pre ++ q') (B := h :: (r ++ (seg.drop (k + 1) ++ post))) (x := x) (n := m) (P := P) (O := O) (hr.cast (by simp)) (by rw [List.length_append, HP.out, hq']) HO2.out
          obtain ⟨cx0, cx1⟩ := cx
          have hb1 : m + 1 ≤ 65536 := by omega
          have HQ : Hid (q'.length = m) := hq'
          have HK : Hid ((K t).At wr ∧ (K x).At wr) := ⟨key_in (hK t htm) hbW, key_in (hK x hxm) hbW⟩
          have HIN2 : Hid (InsIn (keysOf K) seg k t (q' ++ [x]) r) := hin
          have HR2 : Hid (RowAt 37 (ev3 K V) wr g ((pre ++ (q' ++ [x])) ++ h :: (r ++ (seg.drop (k + 1) ++ post)))) := hr
          have HAS2 : Hid (Aside2 wr g n0 #[(.slice (K t).a (K t).l.length (K t).cap), (.slice (V t).a (V t).l.length (V t).cap)] 37) := has
          have hi1 : (0 : Int) ≤ (m : Int) := by omega
          have hi2 : (m : Int) < (seg.length : Int) := by omega
          have hi3 : (0 : Int) < (m : Int) + 1 := by omega
          have hw1 : IntKind.i64.wrap (m : Int) = (m : Int) := by rw [IntKind.wrap_i64]; omega
          clear hin hr hql hq' ch0 ch1 fh0 fh1 has
          go_wp2_with fail
          go_region_held3 (fun w' => w'.cell? ⟨n0, 0, none⟩ = some (.slice (K t).a (K t).l.length (K t).cap) ∧ w'.cell? ⟨n0, 1, none⟩ = some (.slice (V t).a (V t).l.length (V t).cap) ∧ w'.cell? ⟨g, O + m * 2, none⟩ = some (.slice (K x).a (K x).l.length (K x).cap) ∧ w'.cell? ⟨g, O + m * 2 + 1, none⟩ = some (.slice (V x).a (V x).l.length (V x).cap)) (refine ⟨?_, ?_, ?_, ?_⟩ <;> assumption)
            (first | (go_at_call 27; refine (less_pairs _ (K t) (K x) _ _ (key_in HK.out.1 (Below.refl _ _).drew) (key_in HK.out.2 (Below.refl _ _).drew)).mono ?_; rintro e w1 ⟨rfl, hb⟩; have j0 : w1.cell? ⟨n0, 0, none⟩ = some (.slice (K t).a (K t).l.length (K t).cap) := cell_keep2 hb i0; have j1 : w1.cell? ⟨n0, 1, none⟩ = some (.slice (V t).a (V t).l.length (V t).cap) := cell_keep2 hb i1; have j2 : w1.cell? ⟨g, O + m * 2, none⟩ = some (.slice (K x).a (K x).l.length (K x).cap) := cell_keep2 hb cx0; have j3 : w1.cell? ⟨g, O + m * 2 + 1, none⟩ = some (.slice (V x).a (V x).l.length (V x).cap) := cell_keep2 hb cx1))
          have hr1 := (HR2.out.drew).below hb
          have hg1 := grown_trans (grown_drew hgr) (grown_below hb (some g))
          have as1 : Aside2 w1 g n0 #[(.slice (K t).a (K t).l.length (K t).cap), (.slice (V t).a (V t).l.length (V t).cap)] 37 := Aside2.below (w := wr.drew) ⟨HAS2.out.ne, HAS2.out.blk⟩ hb
          have ch := cells_row3 (n := m + 1) (P := P) (O := O) hr1 (by rw [List.length_append, List.length_append, HP.out, HQ.out]; rfl) HO2.out
          obtain ⟨ch0, ch1⟩ := ch
          have fh0 := hr1.free (O + (m + 1) * 2)
          have fh1 := hr1.free (O + (m + 1) * 2 + 1)
          clear hw1 i0 i1 cx0 cx1
          by_cases hl : Ord.cmp (K t).l (K x).l < 0
          · have e1 : lessB (K t).l (K x).l = true := by unfold lessB; simpa using hl
            have HI3 : Hid (InsIn (keysOf K) seg k t q' (x :: r)) := HIN2.out.back hl
            have HR3 : Hid (RowAt 37 (ev3 K V) ((w1.setCell ⟨g, O + (m + 1) * 2, none⟩ (.slice (K x).a (K x).l.length (K x).cap)).setCell ⟨g, O + (m + 1) * 2 + 1, none⟩ (.slice (V x).a (V x).l.length (V x).cap)) g ((pre ++ q') ++ x :: ((x :: r) ++ (seg.drop (k + 1) ++ post)))) :=
              (row_set2' (n := m + 1) (P := P) (O := O) (ev3_len K V) (t := x) rfl hr1 (by rw [List.length_append, List.length_append, HP.out, HQ.out]; rfl) HO2.out).cast (by simp)
            have HG3 : Hid (w.grownBy ((w1.setCell ⟨g, O + (m + 1) * 2, none⟩ (.slice (K x).a (K x).l.length (K x).cap)).setCell ⟨g, O + (m + 1) * 2 + 1, none⟩ (.slice (V x).a (V x).l.length (V x).cap)) (some g)) := grown_set2 hg1
            have HA3 : Hid (Aside2 ((w1.setCell ⟨g, O + (m + 1) * 2, none⟩ (.slice (K x).a (K x).l.length (K x).cap)).setCell ⟨g, O + (m + 1) * 2 + 1, none⟩ (.slice (V x).a (V x).l.length (V x).cap)) g n0 #[(.slice (K t).a (K t).l.length (K t).cap), (.slice (V t).a (V t).l.length (V t).cap)] 37) := (as1.set _).set _
            clear hr1 hg1 hl as1 hb hgr hbW
            rw [e1]
            go_wp2
            go_roundw
            case rel => exact ⟨m, x, q', x :: r, by go_num, HQ.out, HI3.out, HR3.out, HG3.out, HA3.out⟩
            case measure => simp [intOf]
          · have e1 : lessB (K t).l (K x).l = false := by unfold lessB; simpa using hl
            have HO : Hid (InsOut (keysOf K) seg ((q' ++ [x]) ++ t :: r) (k + 1)) := HIN2.out.done hinc (Or.inr ⟨q', x, rfl, hl⟩)
            have HR3 : Hid (RowAt 37 (ev3 K V) ((w1.setCell ⟨g, O + (m + 1) * 2, none⟩ (.slice (K t).a (K t).l.length (K t).cap)).setCell ⟨g, O + (m + 1) * 2 + 1, none⟩ (.slice (V t).a (V t).l.length (V t).cap)) g (pre ++ (((q' ++ [x]) ++ t :: r) ++ (seg.drop (k + 1) ++ post)))) :=
              (row_set2' (n := m + 1) (P := P) (O := O) (ev3_len K V) (t := t) rfl hr1 (by rw [List.length_append, List.length_append, HP.out, HQ.out]; rfl) HO2.out).cast (by simp)
            have HG3 : Hid (w.grownBy ((w1.setCell ⟨g, O + (m + 1) * 2, none⟩ (.slice (K t).a (K t).l.length (K t).cap)).setCell ⟨g, O + (m + 1) * 2 + 1, none⟩ (.slice (V t).a (V t).l.length (V t).cap)) (some g)) := grown_set2 hg1
            clear hr1 hg1 hl as1 hb hgr hbW
            rw [e1]
            go_wp2
            go_roundw
            case rel => exact ⟨k + 1, (q' ++ [x]) ++ t :: r, by go_num, HO.out, HR3.out, HG3.out⟩
            case measure => simp [intOf]; omega
    · have hk0 : k = seg.length := by omega
      have HF : Hid (∃ seg', seg'.Perm seg ∧ Ord.Srt (keysOf K) seg' ∧ RowAt 37 (ev3 K V) wr g (pre ++ (seg' ++ post)) ∧ w.grownBy wr (some g)) := by
        refine ⟨A, ?_, hout.srt, ?_, hgr⟩
        · have := hout.perm; rw [hk0, List.take_length] at this; exact this
        · rw [hk0, List.drop_length] at hr; exact hr
      clear hk0 hout hr hgr
      go_wp2
      go_end0
      exact ⟨rfl, HF.out⟩
end Go.Proofs.Qxb6500664a
