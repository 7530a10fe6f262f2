/-
  'codec.merge[[]byte]' (function 30): the text of the items' walk, turned.
-/
import Derived.Test.Qxb6500664aMrgI
namespace Go.Proofs.Qxb6500664a
open Go.RowKit

theorem cell_row1o {ty : TypeId} {K : Nat → BSl} {w : World} {g : Nat} {A B : List Nat} {x n O P : Nat} (h : RowAt ty (ev1 K) w g (A ++ x :: B)) (hn : A.length = P + n) (hO : P = O) : w.cell? ⟨g, O + n, none⟩ = some (.slice (K x).a (K x).l.length (K x).cap) :=
  cell_row1 h (by rw [hn, hO])
theorem RowPart.cells1 {ty : TypeId} {ev : Nat → List Value} (hev : ∀ t, (ev t).length = 1) {w : World} {g : Nat} {A : List Nat} {Z : List Value} {v0 : Value} {n O P : Nat} (h : RowPart ty ev w g A (v0 :: Z)) (hn : A.length = P + n) (hO : P = O) :
    w.cell? ⟨g, O + n, none⟩ = some v0 := by
  have h0 := h.cell hev 0
  rw [hn, Nat.mul_one, hO, Nat.add_zero] at h0
  exact h0
theorem part_set1 {ty : TypeId} {ev : Nat → List Value} (hev : ∀ t, (ev t).length = 1) {w : World} {g : Nat} {A : List Nat} {Z : List Value} {a v0 : Value} {t n O P : Nat} (hv : ev t = [v0]) (h : RowPart ty ev w g A (a :: Z)) (hn : A.length = P + n) (hO : P = O) :
    RowPart ty ev (w.setCell ⟨g, O + n, none⟩ v0) g (A ++ [t]) Z := by
  have e : O + n = A.length := by rw [hn, hO]
  rw [e]
  refine ⟨?_⟩
  rw [Joins.block_setCell h.blk, List.setIfInBounds_toArray]
  have e1 := set_flat hev A [a] Z 0 (by simp) v0
  rw [Nat.mul_one, Nat.add_zero] at e1
  show some (Obj.cells ((A.flatMap ev ++ ([a] ++ Z)).set A.length v0).toArray ty (0, 0)) = _
  rw [e1, List.flatMap_append]
  simp [hv]
theorem drop1 (Z : List Value) (k R nz : Nat) (hz : Z.length = nz + R) (hk : k < nz) : ∃ v0, Z.drop k = v0 :: Z.drop (k + 1) :=
  ⟨Z[k]'(by omega), List.drop_eq_getElem_cons (by omega)⟩

set_option maxHeartbeats 1000000 in
theorem merge_bytes (W0 w : World) (K : Nat → BSl) (s d Pa Pb Pd Oa Ob Od ca cb cd : Nat) (Ab : Option Addr) (preS x y postS preD : List Nat) (Z : List Value) (nz R : Nat)
    (hPa : preS.length = Pa) (hPb : preS.length + x.length = Pb) (hPd : preD.length = Pd) (hOa : Pa = Oa) (hOb : Pb = Ob) (hOd : Pd = Od) (hAb : 0 < y.length → Ab = some ⟨s, Ob, none⟩)
    (hsx : Ord.Srt (keysOf K) x) (hsy : Ord.Srt (keysOf K) y) (hxy : ∀ a ∈ x, ∀ b ∈ y, a < b) (hz : nz = x.length + y.length) (hlen : nz ≤ 65536) (hZl : Z.length = nz + R)
    (hKx : ∀ t ∈ x, (K t).At W0) (hKy : ∀ t ∈ y, (K t).At W0) (hB0 : W0.heap.size ≤ d) (hsd : s ≠ d) (hbel : Below W0.heap.size W0 w)
    (hsrc : RowAt 27 (ev1 K) w s (preS ++ (x ++ (y ++ postS)))) (hdst : RowPart 27 (ev1 K) w d preD Z) :
    Calls Try.prog 30 #[.slice (some ⟨d, Od, none⟩) nz cd, .slice (some ⟨s, Oa, none⟩) x.length ca, .slice Ab y.length cb, .func (.func 25) #[] #[]] w (MrgPost 27 (ev1 K) K w d preD x y (Z.drop nz)) := by
  have HPa : Hid (preS.length = Pa) := hPa
  have HPb : Hid (preS.length + x.length = Pb) := hPb
  have HPd : Hid (preD.length = Pd) := hPd
  have HOa : Hid (Pa = Oa) := hOa
  have HOb : Hid (Pb = Ob) := hOb
  have HOd : Hid (Pd = Od) := hOd
  have HZ : Hid (nz = x.length + y.length) := hz
  have HZL : Hid (Z.length = nz + R) := hZl
  have lx : x.length ≤ 65536 := by omega
  have ly : y.length ≤ 65536 := by omega
  clear hPa hPb hPd hOa hOb hOd hz hZl
  go_enter Try.func30, Try.ntmps30
  go_wp2
  go_loopw [8, 9, 13] (fun i j k wr => ∃ (ni nj nk : Nat) (o xr yr : List Nat), i = .int .i64 (ni : Int) ∧ j = .int .i64 (nj : Int) ∧ k = .int .i64 (nk : Int) ∧ Hid (nk = ni + nj) ∧ MSt (keysOf K) x y o xr yr ni nj ∧ RowPart 27 (ev1 K) wr d (preD ++ o) (Z.drop nk) ∧ w.grownBy wr (some d)) (fun _ _ k _ => nz - (intOf k).toNat)
  case atStart => exact ⟨0, 0, 0, [], x, y, rfl, rfl, rfl, rfl, MSt.start hsx hsy hxy, hdst.castA (by simp) (by simp), grown_refl _ _⟩
  case round =>
    obtain ⟨ni, nj, nk, o, xr, yr, rfl, rfl, rfl, HNK, hst, hr, hgr⟩ := hrel
    have hlens := hst.lens
    have hlo := hst.lo
    have hnk := HNK.out
    have hzl := HZ.out
    by_cases hlt : nk < nz
    · obtain ⟨v0, hZ⟩ := drop1 Z nk R nz HZL.out hlt
      have hsw := hsrc.other hgr hsd
      rw [hZ] at hr
      clear hZ
      have dc := hr.cells1 (n := nk) (P := Pd) (O := Od) (ev1_len K) (by rw [List.length_append, HPd.out, hlo, hnk]) HOd.out
      have dc0 := dc
      have fd0 := hr.free (Od + nk)
      have hbW := env_grown hbel hB0 hgr
      obtain ⟨xo, ex, lxo⟩ := hst.hx
      obtain ⟨yo, ey, lyo⟩ := hst.hy
      have bk : nk ≤ 65536 := by omega
      have bi : ni ≤ 65536 := by omega
      have bj : nj ≤ 65536 := by omega
      cases yr with
      | nil =>
        obtain ⟨t, xr, rfl⟩ : ∃ t r, xr = t :: r := by
          cases xr with
          | nil => have := hlens.1; have := hlens.2; simp at *; omega
          | cons t r => exact ⟨t, r, rfl⟩
        have HS2 : Hid (MSt (keysOf K) x y (o ++ [t]) xr [] (ni + 1) nj) := hst.left (by simp)
        have ac := cell_row1o (n := ni) (P := Pa) (O := Oa) (A := preS ++ xo) (x := t) (B := xr ++ (y ++ postS)) (hsw.cast (by rw [ex]; simp)) (by rw [List.length_append, HPa.out, lxo]) HOa.out
        have ac0 := ac
        have e1 : ((nj : Int) == (y.length : Int)) = true := by rw [beq_iff_eq]; have := hlens.2; simp at this; omega
        have hia : (ni : Int) < (x.length : Int) := by have := hlens.1; simp at this; omega
        have HR : Hid (∀ nq, RowPart 27 (ev1 K) ((wr.drewN nq).setCell ⟨d, Od + nk, none⟩ (.slice (K t).a (K t).l.length (K t).cap)) d (preD ++ (o ++ [t])) (Z.drop (nk + 1))) := by
          intro nq
          have hr2 : RowPart 27 (ev1 K) (wr.drewN nq) d (preD ++ o) (v0 :: Z.drop (nk + 1)) := ⟨hr.blk⟩
          exact (part_set1 (n := nk) (P := Pd) (O := Od) (ev1_len K) (t := t) rfl hr2 (by rw [List.length_append, HPd.out, hlo, hnk]) HOd.out).castA (by simp) rfl
        have HG : Hid (∀ nq, w.grownBy ((wr.drewN nq).setCell ⟨d, Od + nk, none⟩ (.slice (K t).a (K t).l.length (K t).cap)) (some d)) := fun nq => grown_trans (b := wr.drewN nq) ⟨hgr.os, hgr.tape, hgr.output, hgr.size, hgr.block⟩ (grown_set _)
        have HNK2 : Hid (nk + 1 = ni + 1 + nj) := by show nk + 1 = _; omega
        clear hst hr hgr hlens hlo hnk hzl hsw hbW ex ey lxo lyo HNK
        go_wp2
        go_quiet (fail)
        go_wp2
        go_roundw
        case rel => exact ⟨ni + 1, nj, nk + 1, o ++ [t], xr, [], by go_num, rfl, by go_num, HNK2.out, HS2.out, HR.out _, HG.out _⟩
        case measure => simp [intOf]; omega
      | cons t yr =>
        have hyl : nj < y.length := by have := hlens.2; simp at this; omega
        have hab := hAb (by omega)
        have bc := cell_row1o (n := nj) (P := Pb) (O := Ob) (A := preS ++ (x ++ yo)) (x := t) (B := yr ++ postS) (hsw.cast (by rw [ey]; simp)) (by rw [List.length_append, List.length_append, lyo, ← HPb.out]; omega) HOb.out
        have bc0 := bc
        have e1 : ((nj : Int) == (y.length : Int)) = false := by rw [beq_eq_false_iff_ne]; omega
        have hjb : (nj : Int) < (y.length : Int) := by omega
        subst hab
        have HKT : Hid ((K t).At W0) := hKy t (mem_rest ey)
        cases xr with
        | nil =>
          have HS2 : Hid (MSt (keysOf K) x y (o ++ [t]) [] yr ni (nj + 1)) := hst.right (by simp)
          have e2 : decide (ni < x.length) = false := by have := hlens.1; simp at this ⊢; omega
          have HR : Hid (∀ nq, RowPart 27 (ev1 K) ((wr.drewN nq).setCell ⟨d, Od + nk, none⟩ (.slice (K t).a (K t).l.length (K t).cap)) d (preD ++ (o ++ [t])) (Z.drop (nk + 1))) := by
            intro nq
            have hr2 : RowPart 27 (ev1 K) (wr.drewN nq) d (preD ++ o) (v0 :: Z.drop (nk + 1)) := ⟨hr.blk⟩
            exact (part_set1 (n := nk) (P := Pd) (O := Od) (ev1_len K) (t := t) rfl hr2 (by rw [List.length_append, HPd.out, hlo, hnk]) HOd.out).castA (by simp) rfl
          have HG : Hid (∀ nq, w.grownBy ((wr.drewN nq).setCell ⟨d, Od + nk, none⟩ (.slice (K t).a (K t).l.length (K t).cap)) (some d)) := fun nq => grown_trans (b := wr.drewN nq) ⟨hgr.os, hgr.tape, hgr.output, hgr.size, hgr.block⟩ (grown_set _)
          have HNK2 : Hid (nk + 1 = ni + (nj + 1)) := by show nk + 1 = _; omega
          clear hst hr hgr hlens hlo hnk hzl hsw hbW ex ey lxo lyo HNK
          go_wp2
          go_quiet (fail)
          go_wp2
          go_roundw
          case rel => exact ⟨ni, nj + 1, nk + 1, o ++ [t], [], yr, rfl, by go_num, by go_num, HNK2.out, HS2.out, HR.out _, HG.out _⟩
          case measure => simp [intOf]; omega
        | cons x0 xr =>
          have hxl : ni < x.length := by have := hlens.1; simp at this; omega
          have ac := cell_row1o (n := ni) (P := Pa) (O := Oa) (A := preS ++ xo) (x := x0) (B := xr ++ (y ++ postS)) (hsw.cast (by rw [ex]; simp)) (by rw [List.length_append, HPa.out, lxo]) HOa.out
          have ac0 := ac
          have hia : (ni : Int) < (x.length : Int) := by omega
          have e2 : decide ((ni : Int) < (x.length : Int)) = true := by simp; omega
          have i1 : (0 : Int) ≤ (ni : Int) := by omega
          have i2 : (0 : Int) ≤ (nj : Int) := by omega
          have HK : Hid ((K t).At wr ∧ (K x0).At wr) := ⟨key_in HKT.out hbW, key_in (hKx x0 (mem_rest ex)) hbW⟩
          have HST : Hid (MSt (keysOf K) x y o (x0 :: xr) (t :: yr) ni nj) := hst
          have HRR : Hid (RowPart 27 (ev1 K) wr d (preD ++ o) (v0 :: Z.drop (nk + 1))) := hr
          have HLO : Hid (o.length = nk) := by show o.length = nk; omega
          have HNK1 : Hid (nk + 1 = ni + 1 + nj) := by show nk + 1 = _; omega
          have HNK2 : Hid (nk + 1 = ni + (nj + 1)) := by show nk + 1 = _; omega
          clear hst hr hlens hlo hnk hzl hsw hbW ex ey lxo lyo HNK
          go_wp2_with fail
          go_region_held3 (fun w' => w'.cell? ⟨s, Ob + nj, none⟩ = some (.slice (K t).a (K t).l.length (K t).cap) ∧ w'.cell? ⟨s, Oa + ni, none⟩ = some (.slice (K x0).a (K x0).l.length (K x0).cap)) (refine ⟨?_, ?_⟩ <;> assumption)
            (first | (go_at_call 25; refine (less_bytes _ (K t) (K x0) (key_in HK.out.1 (Below.refl _ _).drew) (key_in HK.out.2 (Below.refl _ _).drew)).mono ?_; rintro e w1 ⟨rfl, hb⟩; have j0 : w1.cell? ⟨s, Ob + nj, none⟩ = some (.slice (K t).a (K t).l.length (K t).cap) := cell_keep2 hb bc0; have j2 : w1.cell? ⟨s, Oa + ni, none⟩ = some (.slice (K x0).a (K x0).l.length (K x0).cap) := cell_keep2 hb ac0))
          have hr1 := (HRR.out.drew).below hb
          have hg1 := grown_trans (grown_drew hgr) (grown_below hb (some d))
          have dc := hr1.cells1 (n := nk) (P := Pd) (O := Od) (ev1_len K) (by rw [List.length_append, HPd.out, HLO.out]) HOd.out
          have dd0 := dc
          have ff0 := hr1.free (Od + nk)
          clear ac0 bc0 dc0 fd0
          by_cases hl : Ord.cmp (K t).l (K x0).l < 0
          · have e3 : lessB (K t).l (K x0).l = true := by unfold lessB; simpa using hl
            have HS2 : Hid (MSt (keysOf K) x y (o ++ [t]) (x0 :: xr) yr ni (nj + 1)) := HST.out.right (by intro a r h; cases h; exact hl)
            have HR : Hid (RowPart 27 (ev1 K) (w1.setCell ⟨d, Od + nk, none⟩ (.slice (K t).a (K t).l.length (K t).cap)) d (preD ++ (o ++ [t])) (Z.drop (nk + 1))) :=
              (part_set1 (n := nk) (P := Pd) (O := Od) (ev1_len K) (t := t) rfl hr1 (by rw [List.length_append, HPd.out, HLO.out]) HOd.out).castA (by simp) rfl
            have HG : Hid (w.grownBy (w1.setCell ⟨d, Od + nk, none⟩ (.slice (K t).a (K t).l.length (K t).cap)) (some d)) := grown_trans hg1 (grown_set _)
            clear hr1 hg1 hl hb hgr
            rw [e3]
            go_wp2
            go_roundw
            case rel => exact ⟨ni, nj + 1, nk + 1, o ++ [t], x0 :: xr, yr, rfl, by go_num, by go_num, HNK2.out, HS2.out, HR.out, HG.out⟩
            case measure => simp [intOf]; omega
          · have e3 : lessB (K t).l (K x0).l = false := by unfold lessB; simpa using hl
            have HS2 : Hid (MSt (keysOf K) x y (o ++ [x0]) xr (t :: yr) (ni + 1) nj) := HST.out.left (by intro a r h; cases h; exact hl)
            have HR : Hid (RowPart 27 (ev1 K) (w1.setCell ⟨d, Od + nk, none⟩ (.slice (K x0).a (K x0).l.length (K x0).cap)) d (preD ++ (o ++ [x0])) (Z.drop (nk + 1))) :=
              (part_set1 (n := nk) (P := Pd) (O := Od) (ev1_len K) (t := x0) rfl hr1 (by rw [List.length_append, HPd.out, HLO.out]) HOd.out).castA (by simp) rfl
            have HG : Hid (w.grownBy (w1.setCell ⟨d, Od + nk, none⟩ (.slice (K x0).a (K x0).l.length (K x0).cap)) (some d)) := grown_trans hg1 (grown_set _)
            clear hr1 hg1 hl hb hgr
            rw [e3]
            go_wp2
            go_roundw
            case rel => exact ⟨ni + 1, nj, nk + 1, o ++ [x0], xr, t :: yr, by go_num, rfl, by go_num, HNK1.out, HS2.out, HR.out, HG.out⟩
            case measure => simp [intOf]; omega
    · have e1 : xr = [] := List.eq_nil_of_length_eq_zero (by omega)
      have e2 : yr = [] := List.eq_nil_of_length_eq_zero (by omega)
      have HF : Hid (∃ o, o.Perm (x ++ y) ∧ Ord.Srt (keysOf K) o ∧ RowPart 27 (ev1 K) wr d (preD ++ o) (Z.drop nz) ∧ w.grownBy wr (some d)) := by
        refine ⟨o, ?_, hst.mrg.so, ?_, hgr⟩
        · have := hst.perm; rw [e1, e2] at this; simpa using this
        · rw [show nz = nk by omega]; exact hr
      clear hst hr hgr hlens hlo hnk hzl e1 e2
      go_wp2
      go_end0
      exact ⟨rfl, HF.out⟩
end Go.Proofs.Qxb6500664a
