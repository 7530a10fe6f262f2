/-
  'codec.insertionSort[codeclaw.item]' (function 22).
-/
import Derived.Test.Qxb6500664aIns
import Derived.Deep.RegionHeld3
namespace Go.Proofs.Qxb6500664a
open Go.RowKit

/-- an item: its key and its first place -/
def ev2 (K : Nat → BSl) (t : Nat) : List Value := [.slice (K t).a (K t).l.length (K t).cap, .int .i64 (t : Int)]
theorem ev2_len (K : Nat → BSl) (t : Nat) : (ev2 K t).length = 2 := rfl
theorem cells_row2 {ty : TypeId} {K : Nat → BSl} {w : World} {g : Nat} {A B : List Nat} {x n O P : Nat} (h : RowAt ty (ev2 K) w g (A ++ x :: B)) (hn : A.length = P + n) (hO : P * 2 = O) :
    w.cell? ⟨g, O + n * 2, none⟩ = some (.slice (K x).a (K x).l.length (K x).cap) ∧ w.cell? ⟨g, O + n * 2 + 1, none⟩ = some (.int .i64 (x : Int)) := by
  have h0 := h.cell (ev2_len K) 0 (by omega)
  have h1 := h.cell (ev2_len K) 1 (by omega)
  rw [hn, Nat.add_mul, hO] at h0 h1
  exact ⟨h0, h1⟩
theorem row_set2' {ty : TypeId} {ev : Nat → List Value} (hev : ∀ t, (ev t).length = 2) {w : World} {g : Nat} {A B : List Nat} {x t n O P : Nat} {v0 v1 : Value} (hv : ev t = [v0, v1]) (h : RowAt ty ev w g (A ++ x :: B)) (hn : A.length = P + n) (hO : P * 2 = O) :
    RowAt ty ev ((w.setCell ⟨g, O + n * 2, none⟩ v0).setCell ⟨g, O + n * 2 + 1, none⟩ v1) g (A ++ t :: B) := by
  have := row_set2 hev hv h
  rw [hn, Nat.add_mul, hO] at this
  exact this
theorem grown_set2 {a b : World} {g i j : Nat} {v u : Value} (h : a.grownBy b (some g)) : a.grownBy ((b.setCell ⟨g, i, none⟩ v).setCell ⟨g, j, none⟩ u) (some g) :=
  grown_trans h (grown_trans (grown_set v) (grown_set u))
theorem cell_keep2 {w w1 : World} {p : Addr} {v : Value} (hb : Below w.drew.heap.size w.drew w1) (h : w.cell? p = some v) : w1.cell? p = some v := by
  have hlt : p.block < w.heap.size := by
    rcases Nat.lt_or_ge p.block w.heap.size with h' | h'
    · exact h'
    · simp [World.cell?, Array.getElem?_eq_none h'] at h
  exact (hb.cell (p := p) hlt).trans h

/-- a block of its own beside the row -/
structure Aside2 (w : World) (g n0 : Nat) (C : Array Value) (ty : TypeId) : Prop where
  ne : n0 ≠ g
  blk : w.heap[n0]? = some (.cells C ty (0, 0))
theorem Aside2.lt {w : World} {g n0 : Nat} {C : Array Value} {ty : TypeId} (h : Aside2 w g n0 C ty) : n0 < w.heap.size := by
  rcases Nat.lt_or_ge n0 w.heap.size with h' | h'
  · exact h'
  · have := h.blk; rw [Array.getElem?_eq_none h'] at this; simp at this
theorem Aside2.below {w w' : World} {g n0 : Nat} {C : Array Value} {ty : TypeId} (h : Aside2 w g n0 C ty) (hb : Below w.heap.size w w') : Aside2 w' g n0 C ty := ⟨h.ne, (hb.block n0 h.lt).trans h.blk⟩
theorem Aside2.set {w : World} {g n0 i : Nat} {C : Array Value} {ty : TypeId} (h : Aside2 w g n0 C ty) (v : Value) : Aside2 (w.setCell ⟨g, i, none⟩ v) g n0 C ty :=
  ⟨h.ne, (Below.heap_setCell _ _ _ _ (fun e => h.ne e)).trans h.blk⟩
theorem Aside2.cell {w : World} {g n0 : Nat} {C : Array Value} {ty : TypeId} (h : Aside2 w g n0 C ty) (i : Nat) : w.cell? ⟨n0, i, none⟩ = C[i]? := Joins.cell_of_block h.blk i
theorem Aside2.born {w : World} {g : Nat} (hg : g < w.heap.size) (C : Array Value) (ty : TypeId) : Aside2 (w.alloc (.cells C ty)) g w.heap.size C ty :=
  ⟨by omega, by show (w.heap.push _)[w.heap.size]? = _; simp⟩

set_option maxHeartbeats 1000000 in
theorem ins_items (W0 w : World) (K : Nat → BSl) (g P O cap : Nat) (pre seg post : List Nat) (hP : pre.length = P) (hO : P * 2 = O) (hinc : seg.Pairwise (· < ·)) (hK : ∀ t ∈ seg, (K t).At W0) (h1 : 1 ≤ seg.length) (hlen : seg.length ≤ 65536)
    (hB0 : W0.heap.size ≤ g) (hbel : Below W0.heap.size W0 w) (hrow : RowAt 39 (ev2 K) w g (pre ++ (seg ++ post))) :
    Calls Try.prog 22 #[.slice (some ⟨g, O, none⟩) seg.length cap, .func (.func 9) #[] #[]] w (InsPost 39 (ev2 K) K w g pre seg post) := by
  have HP : Hid (pre.length = P) := hP
  have HO2 : Hid (P * 2 = O) := hO
  clear hP hO
  go_enter Try.func22, Try.ntmps22
  go_wp2
  go_loopw [4] (fun i wr => ∃ (k : Nat) (A : List Nat), i = .int .i64 (k : Int) ∧ InsOut (keysOf K) seg A k ∧ RowAt 39 (ev2 K) wr g (pre ++ (A ++ (seg.drop k ++ post))) ∧ w.grownBy wr (some g)) (fun i _ => seg.length - (intOf i).toNat)
  case atStart => exact ⟨1, seg.take 1, rfl, InsOut.start _ _ h1, hrow.cast (by rw [← List.append_assoc (seg.take 1), List.take_append_drop]), grown_refl _ _⟩
  case round =>
    obtain ⟨k, A, rfl, hout, hr, hgr⟩ := hrel
    have hkle := hout.le
    by_cases hlt : k < seg.length
    · obtain ⟨t, ht⟩ : ∃ t, seg[k]? = some t := ⟨_, List.getElem?_eq_getElem hlt⟩
      have htm : t ∈ seg := List.mem_iff_getElem?.2 ⟨k, ht⟩
      have hin := hout.into hlt ht
      have hAl := hout.length
      have hD : seg.drop k = t :: seg.drop (k + 1) := by rw [List.drop_eq_getElem_cons hlt]; congr 1; rw [List.getElem?_eq_getElem hlt] at ht; exact Option.some.inj ht
      have hr' : RowAt 39 (ev2 K) wr g ((pre ++ A) ++ t :: (seg.drop (k + 1) ++ post)) := hr.cast (by rw [hD]; simp)
      have ct := cells_row2 (n := k) (P := P) (O := O) hr' (by rw [List.length_append, HP.out, hAl]) HO2.out
      obtain ⟨ct0, ct1⟩ := ct
      have HIN : Hid (InsIn (keysOf K) seg k t A []) := hin
      have HR : Hid (RowAt 39 (ev2 K) (wr.alloc (.cells #[(.slice (K t).a (K t).l.length (K t).cap), (.int .i64 (t : Int))] 39)) g ((pre ++ A) ++ t :: ([] ++ (seg.drop (k + 1) ++ post)))) := hr'.alloc _
      have HA : Hid (A.length = k) := hAl
      have HAS : Hid (Aside2 (wr.alloc (.cells #[(.slice (K t).a (K t).l.length (K t).cap), (.int .i64 (t : Int))] 39)) g wr.heap.size #[(.slice (K t).a (K t).l.length (K t).cap), (.int .i64 (t : Int))] 39) := Aside2.born hr'.lt _ _
      have HG : Hid (w.grownBy (wr.alloc (.cells #[(.slice (K t).a (K t).l.length (K t).cap), (.int .i64 (t : Int))] 39)) (some g)) := grown_alloc hgr _
      clear hin hD hr hr' hAl ht hout
      go_wp2
      obtain ⟨n0, hn0⟩ : ∃ n0, n0 = wr.heap.size := ⟨_, rfl⟩
      obtain ⟨wo, hwo⟩ : ∃ wo : World, wo = wr := ⟨_, rfl⟩
      rw [← hwo] at HR HAS HG hn0 ⊢
      clear hwo
      rw [← hn0] at HAS ⊢
      clear hn0 hgr ct0 ct1
      go_loopw [6] (fun j wr => ∃ (m h : Nat) (q r : List Nat), j = .int .i64 (m : Int) ∧ Hid (q.length = m) ∧ InsIn (keysOf K) seg k t q r ∧ RowAt 39 (ev2 K) wr g ((pre ++ q) ++ h :: (r ++ (seg.drop (k + 1) ++ post))) ∧ w.grownBy wr (some g) ∧ Aside2 wr g n0 #[(.slice (K t).a (K t).l.length (K t).cap), (.int .i64 (t : Int))] 39) (fun j _ => (intOf j).toNat)
      case atStart => exact ⟨k, t, A, [], rfl, HA.out, HIN.out, HR.out, HG.out, HAS.out⟩
      case round =>
        obtain ⟨m, h, q, r, rfl, HM, hin, hr, hgr, has⟩ := hrel
        have hql := hin.length
        have hbW := env_grown hbel hB0 hgr
        have ch := cells_row2 (n := m) (P := P) (O := O) hr (by rw [List.length_append, HP.out, HM.out]) HO2.out
        obtain ⟨ch0, ch1⟩ := ch
        have fh0 := hr.free (O + m * 2)
        have fh1 := hr.free (O + m * 2 + 1)
        have i0 : wr.cell? ⟨n0, 0, none⟩ = some (.slice (K t).a (K t).l.length (K t).cap) := has.cell 0
        have i1 : wr.cell? ⟨n0, 1, none⟩ = some (.int .i64 (t : Int)) := has.cell 1
        have hmk : m ≤ k := by have := HM.out; omega
        have HNE : Hid (n0 ≠ g) := has.ne
        cases m with
        | zero =>
          have hq : q = [] := List.eq_nil_of_length_eq_zero HM.out
          have HO : Hid (InsOut (keysOf K) seg (q ++ t :: r) (k + 1)) := hin.done hinc (Or.inl hq)
          have HR2 : Hid (∀ nq, RowAt 39 (ev2 K) (((wr.drewN nq).setCell ⟨g, O, none⟩ (.slice (K t).a (K t).l.length (K t).cap)).setCell ⟨g, O + 1, none⟩ (.int .i64 (t : Int))) g (pre ++ ((q ++ t :: r) ++ (seg.drop (k + 1) ++ post)))) := by
            intro nq
            have hr2 : RowAt 39 (ev2 K) (wr.drewN nq) g ((pre ++ q) ++ h :: (r ++ (seg.drop (k + 1) ++ post))) := ⟨hr.blk⟩
            have := (row_set2' (n := 0) (P := P) (O := O) (ev2_len K) (t := t) rfl hr2 (by rw [List.length_append, HP.out, HM.out]) HO2.out).cast (p' := pre ++ ((q ++ t :: r) ++ (seg.drop (k + 1) ++ post))) (by simp)
            rw [Nat.zero_mul, Nat.add_zero] at this
            exact this
          have HG2 : Hid (∀ nq, w.grownBy (((wr.drewN nq).setCell ⟨g, O, none⟩ (.slice (K t).a (K t).l.length (K t).cap)).setCell ⟨g, O + 1, none⟩ (.int .i64 (t : Int))) (some g)) := fun nq => grown_set2 ⟨hgr.os, hgr.tape, hgr.output, hgr.size, hgr.block⟩
          simp only [Nat.zero_mul, Nat.add_zero] at ch0 ch1 fh0 fh1
          clear hin hr hgr hq hql HM has
          go_wp2
          go_quiet (fail)
          go_wp2
          go_roundw
          case rel => exact ⟨k + 1, q ++ t :: r, by go_num, HO.out, HR2.out _, HG2.out _⟩
          case measure => simp [intOf]; omega
        | succ m =>
          obtain ⟨q', x, rfl⟩ : ∃ q' x, q = q' ++ [x] := by
            have hne : q ≠ [] := fun e => by have := HM.out; rw [e] at this; simp at this
            exact ⟨q.dropLast, q.getLast hne, (List.dropLast_concat_getLast hne).symm⟩
          have hq' : q'.length = m := by have := HM.out; simp at this; exact this
          have hxm : x ∈ seg := (List.take_subset k seg) (hin.perm.subset (by simp))
          have cx := cells_row2 (A := pre ++ q') (B := h :: (r ++ (seg.drop (k + 1) ++ post))) (x := x) (n := m) (P := P) (O := O) (hr.cast (by simp)) (by rw [List.length_append, HP.out, hq']) HO2.out
          obtain ⟨cx0, cx1⟩ := cx
          have hb1 : m + 1 ≤ 65536 := by omega
          have HQ : Hid (q'.length = m) := hq'
          have HK : Hid ((K t).At wr ∧ (K x).At wr) := ⟨key_in (hK t htm) hbW, key_in (hK x hxm) hbW⟩
          have HIN2 : Hid (InsIn (keysOf K) seg k t (q' ++ [x]) r) := hin
          have HR2 : Hid (RowAt 39 (ev2 K) wr g ((pre ++ (q' ++ [x])) ++ h :: (r ++ (seg.drop (k + 1) ++ post)))) := hr
          have HAS2 : Hid (Aside2 wr g n0 #[(.slice (K t).a (K t).l.length (K t).cap), (.int .i64 (t : Int))] 39) := has
          have hi1 : (0 : Int) ≤ (m : Int) := by omega
          have hi2 : (m : Int) < (seg.length : Int) := by omega
          have hi3 : (0 : Int) < (m : Int) + 1 := by omega
          have hw1 : IntKind.i64.wrap (m : Int) = (m : Int) := by rw [IntKind.wrap_i64]; omega
          clear hin hr hql hq' ch0 ch1 fh0 fh1 has
          go_wp2_with fail
          go_region_held3 (fun w' => w'.cell? ⟨n0, 0, none⟩ = some (.slice (K t).a (K t).l.length (K t).cap) ∧ w'.cell? ⟨n0, 1, none⟩ = some (.int .i64 (t : Int)) ∧ w'.cell? ⟨g, O + m * 2, none⟩ = some (.slice (K x).a (K x).l.length (K x).cap) ∧ w'.cell? ⟨g, O + m * 2 + 1, none⟩ = some (.int .i64 (x : Int))) (refine ⟨?_, ?_, ?_, ?_⟩ <;> assumption)
            (first | (go_at_call 9; refine (less_items _ (K t) (K x) _ _ (key_in HK.out.1 (Below.refl _ _).drew) (key_in HK.out.2 (Below.refl _ _).drew)).mono ?_; rintro e w1 ⟨rfl, hb⟩; have j0 : w1.cell? ⟨n0, 0, none⟩ = some (.slice (K t).a (K t).l.length (K t).cap) := cell_keep2 hb i0; have j1 : w1.cell? ⟨n0, 1, none⟩ = some (.int .i64 (t : Int)) := cell_keep2 hb i1; have j2 : w1.cell? ⟨g, O + m * 2, none⟩ = some (.slice (K x).a (K x).l.length (K x).cap) := cell_keep2 hb cx0; have j3 : w1.cell? ⟨g, O + m * 2 + 1, none⟩ = some (.int .i64 (x : Int)) := cell_keep2 hb cx1))
          have hr1 := (HR2.out.drew).below hb
          have hg1 := grown_trans (grown_drew hgr) (grown_below hb (some g))
          have as1 : Aside2 w1 g n0 #[(.slice (K t).a (K t).l.length (K t).cap), (.int .i64 (t : Int))] 39 := Aside2.below (w := wr.drew) ⟨HAS2.out.ne, HAS2.out.blk⟩ hb
          have ch := cells_row2 (n := m + 1) (P := P) (O := O) hr1 (by rw [List.length_append, List.length_append, HP.out, HQ.out]; rfl) HO2.out
          obtain ⟨ch0, ch1⟩ := ch
          have fh0 := hr1.free (O + (m + 1) * 2)
          have fh1 := hr1.free (O + (m + 1) * 2 + 1)
          clear hw1 i0 i1 cx0 cx1
          by_cases hl : Ord.cmp (K t).l (K x).l < 0
          · have e1 : lessB (K t).l (K x).l = true := by unfold lessB; simpa using hl
            have HI3 : Hid (InsIn (keysOf K) seg k t q' (x :: r)) := HIN2.out.back hl
            have HR3 : Hid (RowAt 39 (ev2 K) ((w1.setCell ⟨g, O + (m + 1) * 2, none⟩ (.slice (K x).a (K x).l.length (K x).cap)).setCell ⟨g, O + (m + 1) * 2 + 1, none⟩ (.int .i64 (x : Int))) g ((pre ++ q') ++ x :: ((x :: r) ++ (seg.drop (k + 1) ++ post)))) :=
              (row_set2' (n := m + 1) (P := P) (O := O) (ev2_len K) (t := x) rfl hr1 (by rw [List.length_append, List.length_append, HP.out, HQ.out]; rfl) HO2.out).cast (by simp)
            have HG3 : Hid (w.grownBy ((w1.setCell ⟨g, O + (m + 1) * 2, none⟩ (.slice (K x).a (K x).l.length (K x).cap)).setCell ⟨g, O + (m + 1) * 2 + 1, none⟩ (.int .i64 (x : Int))) (some g)) := grown_set2 hg1
            have HA3 : Hid (Aside2 ((w1.setCell ⟨g, O + (m + 1) * 2, none⟩ (.slice (K x).a (K x).l.length (K x).cap)).setCell ⟨g, O + (m + 1) * 2 + 1, none⟩ (.int .i64 (x : Int))) g n0 #[(.slice (K t).a (K t).l.length (K t).cap), (.int .i64 (t : Int))] 39) := (as1.set _).set _
            clear hr1 hg1 hl as1 hb hgr hbW
            rw [e1]
            go_wp2
            go_roundw
            case rel => exact ⟨m, x, q', x :: r, by go_num, HQ.out, HI3.out, HR3.out, HG3.out, HA3.out⟩
            case measure => simp [intOf]
          · have e1 : lessB (K t).l (K x).l = false := by unfold lessB; simpa using hl
            have HO : Hid (InsOut (keysOf K) seg ((q' ++ [x]) ++ t :: r) (k + 1)) := HIN2.out.done hinc (Or.inr ⟨q', x, rfl, hl⟩)
            have HR3 : Hid (RowAt 39 (ev2 K) ((w1.setCell ⟨g, O + (m + 1) * 2, none⟩ (.slice (K t).a (K t).l.length (K t).cap)).setCell ⟨g, O + (m + 1) * 2 + 1, none⟩ (.int .i64 (t : Int))) g (pre ++ (((q' ++ [x]) ++ t :: r) ++ (seg.drop (k + 1) ++ post)))) :=
              (row_set2' (n := m + 1) (P := P) (O := O) (ev2_len K) (t := t) rfl hr1 (by rw [List.length_append, List.length_append, HP.out, HQ.out]; rfl) HO2.out).cast (by simp)
            have HG3 : Hid (w.grownBy ((w1.setCell ⟨g, O + (m + 1) * 2, none⟩ (.slice (K t).a (K t).l.length (K t).cap)).setCell ⟨g, O + (m + 1) * 2 + 1, none⟩ (.int .i64 (t : Int))) (some g)) := grown_set2 hg1
            clear hr1 hg1 hl as1 hb hgr hbW
            rw [e1]
            go_wp2
            go_roundw
            case rel => exact ⟨k + 1, (q' ++ [x]) ++ t :: r, by go_num, HO.out, HR3.out, HG3.out⟩
            case measure => simp [intOf]; omega
    · have hk0 : k = seg.length := by omega
      have HF : Hid (∃ seg', seg'.Perm seg ∧ Ord.Srt (keysOf K) seg' ∧ RowAt 39 (ev2 K) wr g (pre ++ (seg' ++ post)) ∧ w.grownBy wr (some g)) := by
        refine ⟨A, ?_, hout.srt, ?_, hgr⟩
        · have := hout.perm; rw [hk0, List.take_length] at this; exact this
        · rw [hk0, List.drop_length] at hr; exact hr
      clear hk0 hout hr hgr
      go_wp2
      go_end0
      exact ⟨rfl, HF.out⟩
end Go.Proofs.Qxb6500664a
