/-
  'codec.merge[codeclaw.item]' (function 23).
-/
import Derived.Test.Qxb6500664aInsP
namespace Go.Proofs.Qxb6500664a
open Go.RowKit

/-- block g holds the elements A, then the cells Z -/
structure RowPart (ty : TypeId) (ev : Nat → List Value) (w : World) (g : Nat) (A : List Nat) (Z : List Value) : Prop where
  blk : w.heap[g]? = some (.cells (A.flatMap ev ++ Z).toArray ty (0, 0))
theorem RowPart.lt {ty : TypeId} {ev : Nat → List Value} {w : World} {g : Nat} {A : List Nat} {Z : List Value} (h : RowPart ty ev w g A Z) : g < w.heap.size := by
  rcases Nat.lt_or_ge g w.heap.size with h' | h'
  · exact h'
  · have := h.blk; rw [Array.getElem?_eq_none h'] at this; simp at this
theorem RowPart.below {ty : TypeId} {ev : Nat → List Value} {w w' : World} {g : Nat} {A : List Nat} {Z : List Value} (h : RowPart ty ev w g A Z) (hb : Below w.heap.size w w') : RowPart ty ev w' g A Z :=
  ⟨(hb.block g h.lt).trans h.blk⟩
theorem RowPart.drew {ty : TypeId} {ev : Nat → List Value} {w : World} {g : Nat} {A : List Nat} {Z : List Value} (h : RowPart ty ev w g A Z) : RowPart ty ev w.drew g A Z := ⟨h.blk⟩
theorem RowPart.free {ty : TypeId} {ev : Nat → List Value} {w : World} {g : Nat} {A : List Nat} {Z : List Value} (h : RowPart ty ev w g A Z) (i : Nat) : w.frozen? ⟨g, i, none⟩ = false := Joins.unfrozen_of_block h.blk i
theorem RowPart.castA {ty : TypeId} {ev : Nat → List Value} {w : World} {g : Nat} {A A' : List Nat} {Z Z' : List Value} (h : RowPart ty ev w g A Z) (e : A = A') (e' : Z = Z') : RowPart ty ev w g A' Z' := e ▸ e' ▸ h
theorem RowPart.cell {ty : TypeId} {ev : Nat → List Value} {sz : Nat} (hev : ∀ t, (ev t).length = sz) {w : World} {g : Nat} {A : List Nat} {Z : List Value} (h : RowPart ty ev w g A Z) (c : Nat) : w.cell? ⟨g, A.length * sz + c, none⟩ = Z[c]? := by
  rw [Joins.cell_of_block h.blk, List.getElem?_toArray, List.getElem?_append_right (by rw [flat_len hev]; omega), flat_len hev]
  congr 1; omega
theorem RowPart.cells2 {ty : TypeId} {ev : Nat → List Value} (hev : ∀ t, (ev t).length = 2) {w : World} {g : Nat} {A : List Nat} {Z : List Value} {v0 v1 : Value} {n O P : Nat} (h : RowPart ty ev w g A (v0 :: v1 :: Z)) (hn : A.length = P + n) (hO : P * 2 = O) :
    w.cell? ⟨g, O + n * 2, none⟩ = some v0 ∧ w.cell? ⟨g, O + n * 2 + 1, none⟩ = some v1 := by
  have h0 := h.cell hev 0
  have h1 := h.cell hev 1
  rw [hn, Nat.add_mul, hO] at h0 h1
  exact ⟨h0, h1⟩
theorem part_set2 {ty : TypeId} {ev : Nat → List Value} (hev : ∀ t, (ev t).length = 2) {w : World} {g : Nat} {A : List Nat} {Z : List Value} {a b v0 v1 : Value} {t n O P : Nat} (hv : ev t = [v0, v1]) (h : RowPart ty ev w g A (a :: b :: Z)) (hn : A.length = P + n) (hO : P * 2 = O) :
    RowPart ty ev ((w.setCell ⟨g, O + n * 2, none⟩ v0).setCell ⟨g, O + n * 2 + 1, none⟩ v1) g (A ++ [t]) Z := by
  have e : O + n * 2 = A.length * 2 := by rw [hn, Nat.add_mul, hO]
  rw [e]
  refine ⟨?_⟩
  rw [Joins.block_setCell (Joins.block_setCell h.blk v0), List.setIfInBounds_toArray, List.setIfInBounds_toArray]
  have e1 := set_flat hev A [a, b] Z 0 (by simp) v0
  rw [Nat.add_zero] at e1
  have e2 := set_flat hev A [v0, b] Z 1 (by simp) v1
  show some (Obj.cells (((A.flatMap ev ++ ([a, b] ++ Z)).set (A.length * 2) v0).set (A.length * 2 + 1) v1).toArray ty (0, 0)) = _
  rw [e1]
  show some (Obj.cells ((A.flatMap ev ++ ([v0, b] ++ Z)).set (A.length * 2 + 1) v1).toArray ty (0, 0)) = _
  rw [e2, List.flatMap_append]
  simp [hv]
theorem drop2 (Z : List Value) (k R nz : Nat) (hz : Z.length = nz * 2 + R) (hk : k < nz) : ∃ v0 v1, Z.drop (k * 2) = v0 :: v1 :: Z.drop ((k + 1) * 2) := by
  refine ⟨Z[k * 2]'(by omega), Z[k * 2 + 1]'(by omega), ?_⟩
  rw [List.drop_eq_getElem_cons (show k * 2 < Z.length by omega), List.drop_eq_getElem_cons (show k * 2 + 1 < Z.length by omega), Nat.add_mul]
/-- a row is a part -/
theorem RowAt.part {ty : TypeId} {ev : Nat → List Value} {w : World} {g : Nat} {A B : List Nat} (h : RowAt ty ev w g (A ++ B)) : RowPart ty ev w g A (B.flatMap ev) := ⟨by rw [h.blk, List.flatMap_append]⟩
theorem RowPart.row {ty : TypeId} {ev : Nat → List Value} {w : World} {g : Nat} {A : List Nat} (h : RowPart ty ev w g A []) : RowAt ty ev w g A := ⟨by rw [h.blk, List.append_nil]⟩

/-- the state of a merge: o is written; xr, yr are left of x, y -/
structure MSt (K : Nat → List UInt8) (x y o xr yr : List Nat) (ni nj : Nat) : Prop where
  hx : ∃ xo, x = xo ++ xr ∧ xo.length = ni
  hy : ∃ yo, y = yo ++ yr ∧ yo.length = nj
  perm : (o ++ (xr ++ yr)).Perm (x ++ y)
  mrg : Ord.Mrg K o xr yr
  lo : o.length = ni + nj

theorem MSt.start {K : Nat → List UInt8} {x y : List Nat} (hx : Ord.Srt K x) (hy : Ord.Srt K y) (hlt : ∀ a ∈ x, ∀ b ∈ y, a < b) : MSt K x y [] x y 0 0 :=
  ⟨⟨[], rfl, rfl⟩, ⟨[], rfl, rfl⟩, List.Perm.refl _, Ord.Mrg.start K hx hy hlt, rfl⟩
theorem MSt.lens {K : Nat → List UInt8} {x y o xr yr : List Nat} {ni nj : Nat} (h : MSt K x y o xr yr ni nj) : ni + xr.length = x.length ∧ nj + yr.length = y.length := by
  obtain ⟨xo, e1, l1⟩ := h.hx
  obtain ⟨yo, e2, l2⟩ := h.hy
  rw [e1, e2, List.length_append, List.length_append]; omega
theorem MSt.left {K : Nat → List UInt8} {x y o xr yr : List Nat} {ni nj t : Nat} (h : MSt K x y o (t :: xr) yr ni nj) (hy : ∀ b r, yr = b :: r → ¬ Ord.cmp (K b) (K t) < 0) : MSt K x y (o ++ [t]) xr yr (ni + 1) nj := by
  obtain ⟨xo, e1, l1⟩ := h.hx
  refine ⟨⟨xo ++ [t], by rw [e1]; simp, by simp [l1]⟩, h.hy, ?_, h.mrg.left K hy, ?_⟩
  · have := h.perm; simpa using this
  · have := h.lo; simp; omega
theorem MSt.right {K : Nat → List UInt8} {x y o xr yr : List Nat} {ni nj t : Nat} (h : MSt K x y o xr (t :: yr) ni nj) (hx : ∀ a r, xr = a :: r → Ord.cmp (K t) (K a) < 0) : MSt K x y (o ++ [t]) xr yr ni (nj + 1) := by
  obtain ⟨yo, e1, l1⟩ := h.hy
  refine ⟨h.hx, ⟨yo ++ [t], by rw [e1]; simp, by simp [l1]⟩, ?_, h.mrg.right K hx, ?_⟩
  · have p := h.perm
    refine List.Perm.trans ?_ p
    rw [List.append_assoc]
    refine List.Perm.append_left o ?_
    show (t :: (xr ++ yr)).Perm (xr ++ t :: yr)
    exact List.perm_middle.symm
  · have := h.lo; simp; omega

/-- what a merge leaves -/
def MrgPost (ty : TypeId) (ev : Nat → List Value) (K : Nat → BSl) (w : World) (d : Nat) (preD x y : List Nat) (Z : List Value) (e : Ending) (w' : World) : Prop :=
  e = .returned (.tuple #[]) ∧ ∃ o, o.Perm (x ++ y) ∧ Ord.Srt (keysOf K) o ∧ RowPart ty ev w' d (preD ++ o) Z ∧ w.grownBy w' (some d)

theorem mem_rest {x xr xo : List Nat} {t : Nat} (h : x = xo ++ t :: xr) : t ∈ x := by rw [h]; simp

set_option maxHeartbeats 1000000 in
theorem merge_items (W0 w : World) (K : Nat → BSl) (s d Pa Pb Pd Oa Ob Od ca cb cd : Nat) (Ab : Option Addr) (preS x y postS preD : List Nat) (Z : List Value) (nz R : Nat)
    (hPa : preS.length = Pa) (hPb : preS.length + x.length = Pb) (hPd : preD.length = Pd) (hOa : Pa * 2 = Oa) (hOb : Pb * 2 = Ob) (hOd : Pd * 2 = Od) (hAb : 0 < y.length → Ab = some ⟨s, Ob, none⟩)
    (hsx : Ord.Srt (keysOf K) x) (hsy : Ord.Srt (keysOf K) y) (hxy : ∀ a ∈ x, ∀ b ∈ y, a < b) (hz : nz = x.length + y.length) (hlen : nz ≤ 65536) (hZl : Z.length = nz * 2 + R)
    (hKx : ∀ t ∈ x, (K t).At W0) (hKy : ∀ t ∈ y, (K t).At W0) (hB0 : W0.heap.size ≤ d) (hsd : s ≠ d) (hbel : Below W0.heap.size W0 w)
    (hsrc : RowAt 39 (ev2 K) w s (preS ++ (x ++ (y ++ postS)))) (hdst : RowPart 39 (ev2 K) w d preD Z) :
    Calls Try.prog 23 #[.slice (some ⟨d, Od, none⟩) nz cd, .slice (some ⟨s, Oa, none⟩) x.length ca, .slice Ab y.length cb, .func (.func 9) #[] #[]] w (MrgPost 39 (ev2 K) K w d preD x y (Z.drop (nz * 2))) := by
  have HPa : Hid (preS.length = Pa) := hPa
  have HPb : Hid (preS.length + x.length = Pb) := hPb
  have HPd : Hid (preD.length = Pd) := hPd
  have HOa : Hid (Pa * 2 = Oa) := hOa
  have HOb : Hid (Pb * 2 = Ob) := hOb
  have HOd : Hid (Pd * 2 = Od) := hOd
  have HZ : Hid (nz = x.length + y.length) := hz
  have HZL : Hid (Z.length = nz * 2 + R) := hZl
  have lx : x.length ≤ 65536 := by omega
  have ly : y.length ≤ 65536 := by omega
  clear hPa hPb hPd hOa hOb hOd hz hZl
  go_enter Try.func23, Try.ntmps23
  go_wp2
  go_loopw [8, 9, 13] (fun i j k wr => ∃ (ni nj nk : Nat) (o xr yr : List Nat), i = .int .i64 (ni : Int) ∧ j = .int .i64 (nj : Int) ∧ k = .int .i64 (nk : Int) ∧ Hid (nk = ni + nj) ∧ MSt (keysOf K) x y o xr yr ni nj ∧ RowPart 39 (ev2 K) wr d (preD ++ o) (Z.drop (nk * 2)) ∧ w.grownBy wr (some d)) (fun _ _ k _ => nz - (intOf k).toNat)
  case atStart => exact ⟨0, 0, 0, [], x, y, rfl, rfl, rfl, rfl, MSt.start hsx hsy hxy, hdst.castA (by simp) (by simp), grown_refl _ _⟩
  case round =>
    obtain ⟨ni, nj, nk, o, xr, yr, rfl, rfl, rfl, HNK, hst, hr, hgr⟩ := hrel
    have hlens := hst.lens
    have hlo := hst.lo
    have hnk := HNK.out
    have hzl := HZ.out
    by_cases hlt : nk < nz
    · obtain ⟨v0, v1, hZ⟩ := drop2 Z nk R nz HZL.out hlt
      have hsw := hsrc.other hgr hsd
      rw [hZ] at hr
      clear hZ
      have dc := hr.cells2 (n := nk) (P := Pd) (O := Od) (ev2_len K) (by rw [List.length_append, HPd.out, hlo, hnk]) HOd.out
      obtain ⟨dc0, dc1⟩ := dc
      have fd0 := hr.free (Od + nk * 2)
      have fd1 := hr.free (Od + nk * 2 + 1)
      have hbW := env_grown hbel hB0 hgr
      obtain ⟨xo, ex, lxo⟩ := hst.hx
      obtain ⟨yo, ey, lyo⟩ := hst.hy
      have bk : nk ≤ 65536 := by omega
      have bi : ni ≤ 65536 := by omega
      have bj : nj ≤ 65536 := by omega
      cases yr with
      | nil =>
        obtain ⟨t, xr, rfl⟩ : ∃ t r, xr = t :: r := by
          cases xr with
          | nil => have := hlens.1; have := hlens.2; simp at *; omega
          | cons t r => exact ⟨t, r, rfl⟩
        have HS2 : Hid (MSt (keysOf K) x y (o ++ [t]) xr [] (ni + 1) nj) := hst.left (by simp)
        have ac := cells_row2 (n := ni) (P := Pa) (O := Oa) (A := preS ++ xo) (x := t) (B := xr ++ (y ++ postS)) (hsw.cast (by rw [ex]; simp)) (by rw [List.length_append, HPa.out, lxo]) HOa.out
        obtain ⟨ac0, ac1⟩ := ac
        have e1 : ((nj : Int) == (y.length : Int)) = true := by rw [beq_iff_eq]; have := hlens.2; simp at this; omega
        have hia : (ni : Int) < (x.length : Int) := by have := hlens.1; simp at this; omega
        have HR : Hid (∀ nq, RowPart 39 (ev2 K) (((wr.drewN nq).setCell ⟨d, Od + nk * 2, none⟩ (.slice (K t).a (K t).l.length (K t).cap)).setCell ⟨d, Od + nk * 2 + 1, none⟩ (.int .i64 (t : Int))) d (preD ++ (o ++ [t])) (Z.drop ((nk + 1) * 2))) := by
          intro nq
          have hr2 : RowPart 39 (ev2 K) (wr.drewN nq) d (preD ++ o) (v0 :: v1 :: Z.drop ((nk + 1) * 2)) := ⟨hr.blk⟩
          exact (part_set2 (n := nk) (P := Pd) (O := Od) (ev2_len K) (t := t) rfl hr2 (by rw [List.length_append, HPd.out, hlo, hnk]) HOd.out).castA (by simp) rfl
        have HG : Hid (∀ nq, w.grownBy (((wr.drewN nq).setCell ⟨d, Od + nk * 2, none⟩ (.slice (K t).a (K t).l.length (K t).cap)).setCell ⟨d, Od + nk * 2 + 1, none⟩ (.int .i64 (t : Int))) (some d)) := fun nq => grown_set2 ⟨hgr.os, hgr.tape, hgr.output, hgr.size, hgr.block⟩
        have HNK2 : Hid (nk + 1 = ni + 1 + nj) := by show nk + 1 = _; omega
        clear hst hr hgr hlens hlo hnk hzl hsw hbW ex ey lxo lyo HNK
        go_wp2
        go_quiet (fail)
        go_wp2
        go_roundw
        case rel => exact ⟨ni + 1, nj, nk + 1, o ++ [t], xr, [], by go_num, rfl, by go_num, HNK2.out, HS2.out, HR.out _, HG.out _⟩
        case measure => simp [intOf]; omega
      | cons t yr =>
        have hyl : nj < y.length := by have := hlens.2; simp at this; omega
        have hab := hAb (by omega)
        have bc := cells_row2 (n := nj) (P := Pb) (O := Ob) (A := preS ++ (x ++ yo)) (x := t) (B := yr ++ postS) (hsw.cast (by rw [ey]; simp)) (by rw [List.length_append, List.length_append, lyo, ← HPb.out]; omega) HOb.out
        obtain ⟨bc0, bc1⟩ := bc
        have e1 : ((nj : Int) == (y.length : Int)) = false := by rw [beq_eq_false_iff_ne]; omega
        have hjb : (nj : Int) < (y.length : Int) := by omega
        subst hab
        have HKT : Hid ((K t).At W0) := hKy t (mem_rest ey)
        cases xr with
        | nil =>
          have HS2 : Hid (MSt (keysOf K) x y (o ++ [t]) [] yr ni (nj + 1)) := hst.right (by simp)
          have e2 : decide (ni < x.length) = false := by have := hlens.1; simp at this ⊢; omega
          have HR : Hid (∀ nq, RowPart 39 (ev2 K) (((wr.drewN nq).setCell ⟨d, Od + nk * 2, none⟩ (.slice (K t).a (K t).l.length (K t).cap)).setCell ⟨d, Od + nk * 2 + 1, none⟩ (.int .i64 (t : Int))) d (preD ++ (o ++ [t])) (Z.drop ((nk + 1) * 2))) := by
            intro nq
            have hr2 : RowPart 39 (ev2 K) (wr.drewN nq) d (preD ++ o) (v0 :: v1 :: Z.drop ((nk + 1) * 2)) := ⟨hr.blk⟩
            exact (part_set2 (n := nk) (P := Pd) (O := Od) (ev2_len K) (t := t) rfl hr2 (by rw [List.length_append, HPd.out, hlo, hnk]) HOd.out).castA (by simp) rfl
          have HG : Hid (∀ nq, w.grownBy (((wr.drewN nq).setCell ⟨d, Od + nk * 2, none⟩ (.slice (K t).a (K t).l.length (K t).cap)).setCell ⟨d, Od + nk * 2 + 1, none⟩ (.int .i64 (t : Int))) (some d)) := fun nq => grown_set2 ⟨hgr.os, hgr.tape, hgr.output, hgr.size, hgr.block⟩
          have HNK2 : Hid (nk + 1 = ni + (nj + 1)) := by show nk + 1 = _; omega
          clear hst hr hgr hlens hlo hnk hzl hsw hbW ex ey lxo lyo HNK
          go_wp2
          go_quiet (fail)
          go_wp2
          go_roundw
          case rel => exact ⟨ni, nj + 1, nk + 1, o ++ [t], [], yr, rfl, by go_num, by go_num, HNK2.out, HS2.out, HR.out _, HG.out _⟩
          case measure => simp [intOf]; omega
        | cons x0 xr =>
          have hxl : ni < x.length := by have := hlens.1; simp at this; omega
          have ac := cells_row2 (n := ni) (P := Pa) (O := Oa) (A := preS ++ xo) (x := x0) (B := xr ++ (y ++ postS)) (hsw.cast (by rw [ex]; simp)) (by rw [List.length_append, HPa.out, lxo]) HOa.out
          obtain ⟨ac0, ac1⟩ := ac
          have hia : (ni : Int) < (x.length : Int) := by omega
          have e2 : decide ((ni : Int) < (x.length : Int)) = true := by simp; omega
          have i1 : (0 : Int) ≤ (ni : Int) := by omega
          have i2 : (0 : Int) ≤ (nj : Int) := by omega
          have HK : Hid ((K t).At wr ∧ (K x0).At wr) := ⟨key_in HKT.out hbW, key_in (hKx x0 (mem_rest ex)) hbW⟩
          have HST : Hid (MSt (keysOf K) x y o (x0 :: xr) (t :: yr) ni nj) := hst
          have HRR : Hid (RowPart 39 (ev2 K) wr d (preD ++ o) (v0 :: v1 :: Z.drop ((nk + 1) * 2))) := hr
          have HLO : Hid (o.length = nk) := by show o.length = nk; omega
          have HNK1 : Hid (nk + 1 = ni + 1 + nj) := by show nk + 1 = _; omega
          have HNK2 : Hid (nk + 1 = ni + (nj + 1)) := by show nk + 1 = _; omega
          clear hst hr hlens hlo hnk hzl hsw hbW ex ey lxo lyo HNK
          go_wp2_with fail
          go_region_held3 (fun w' => w'.cell? ⟨s, Ob + nj * 2, none⟩ = some (.slice (K t).a (K t).l.length (K t).cap) ∧ w'.cell? ⟨s, Ob + nj * 2 + 1, none⟩ = some (.int .i64 (t : Int)) ∧ w'.cell? ⟨s, Oa + ni * 2, none⟩ = some (.slice (K x0).a (K x0).l.length (K x0).cap) ∧ w'.cell? ⟨s, Oa + ni * 2 + 1, none⟩ = some (.int .i64 (x0 : Int))) (refine ⟨?_, ?_, ?_, ?_⟩ <;> assumption)
            (first | (go_at_call 9; refine (less_items _ (K t) (K x0) _ _ (key_in HK.out.1 (Below.refl _ _).drew) (key_in HK.out.2 (Below.refl _ _).drew)).mono ?_; rintro e w1 ⟨rfl, hb⟩; have j0 : w1.cell? ⟨s, Ob + nj * 2, none⟩ = some (.slice (K t).a (K t).l.length (K t).cap) := cell_keep2 hb bc0; have j1 : w1.cell? ⟨s, Ob + nj * 2 + 1, none⟩ = some (.int .i64 (t : Int)) := cell_keep2 hb bc1; have j2 : w1.cell? ⟨s, Oa + ni * 2, none⟩ = some (.slice (K x0).a (K x0).l.length (K x0).cap) := cell_keep2 hb ac0; have j3 : w1.cell? ⟨s, Oa + ni * 2 + 1, none⟩ = some (.int .i64 (x0 : Int)) := cell_keep2 hb ac1))
          have hr1 := (HRR.out.drew).below hb
          have hg1 := grown_trans (grown_drew hgr) (grown_below hb (some d))
          have dc := hr1.cells2 (n := nk) (P := Pd) (O := Od) (ev2_len K) (by rw [List.length_append, HPd.out, HLO.out]) HOd.out
          obtain ⟨dd0, dd1⟩ := dc
          have ff0 := hr1.free (Od + nk * 2)
          have ff1 := hr1.free (Od + nk * 2 + 1)
          clear ac0 ac1 bc0 bc1 dc0 dc1 fd0 fd1
          by_cases hl : Ord.cmp (K t).l (K x0).l < 0
          · have e3 : lessB (K t).l (K x0).l = true := by unfold lessB; simpa using hl
            have HS2 : Hid (MSt (keysOf K) x y (o ++ [t]) (x0 :: xr) yr ni (nj + 1)) := HST.out.right (by intro a r h; cases h; exact hl)
            have HR : Hid (RowPart 39 (ev2 K) ((w1.setCell ⟨d, Od + nk * 2, none⟩ (.slice (K t).a (K t).l.length (K t).cap)).setCell ⟨d, Od + nk * 2 + 1, none⟩ (.int .i64 (t : Int))) d (preD ++ (o ++ [t])) (Z.drop ((nk + 1) * 2))) :=
              (part_set2 (n := nk) (P := Pd) (O := Od) (ev2_len K) (t := t) rfl hr1 (by rw [List.length_append, HPd.out, HLO.out]) HOd.out).castA (by simp) rfl
            have HG : Hid (w.grownBy ((w1.setCell ⟨d, Od + nk * 2, none⟩ (.slice (K t).a (K t).l.length (K t).cap)).setCell ⟨d, Od + nk * 2 + 1, none⟩ (.int .i64 (t : Int))) (some d)) := grown_set2 hg1
            clear hr1 hg1 hl hb hgr
            rw [e3]
            go_wp2
            go_roundw
            case rel => exact ⟨ni, nj + 1, nk + 1, o ++ [t], x0 :: xr, yr, rfl, by go_num, by go_num, HNK2.out, HS2.out, HR.out, HG.out⟩
            case measure => simp [intOf]; omega
          · have e3 : lessB (K t).l (K x0).l = false := by unfold lessB; simpa using hl
            have HS2 : Hid (MSt (keysOf K) x y (o ++ [x0]) xr (t :: yr) (ni + 1) nj) := HST.out.left (by intro a r h; cases h; exact hl)
            have HR : Hid (RowPart 39 (ev2 K) ((w1.setCell ⟨d, Od + nk * 2, none⟩ (.slice (K x0).a (K x0).l.length (K x0).cap)).setCell ⟨d, Od + nk * 2 + 1, none⟩ (.int .i64 (x0 : Int))) d (preD ++ (o ++ [x0])) (Z.drop ((nk + 1) * 2))) :=
              (part_set2 (n := nk) (P := Pd) (O := Od) (ev2_len K) (t := x0) rfl hr1 (by rw [List.length_append, HPd.out, HLO.out]) HOd.out).castA (by simp) rfl
            have HG : Hid (w.grownBy ((w1.setCell ⟨d, Od + nk * 2, none⟩ (.slice (K x0).a (K x0).l.length (K x0).cap)).setCell ⟨d, Od + nk * 2 + 1, none⟩ (.int .i64 (x0 : Int))) (some d)) := grown_set2 hg1
            clear hr1 hg1 hl hb hgr
            rw [e3]
            go_wp2
            go_roundw
            case rel => exact ⟨ni + 1, nj, nk + 1, o ++ [x0], xr, t :: yr, by go_num, rfl, by go_num, HNK1.out, HS2.out, HR.out, HG.out⟩
            case measure => simp [intOf]; omega
    · have e1 : xr = [] := List.eq_nil_of_length_eq_zero (by omega)
      have e2 : yr = [] := List.eq_nil_of_length_eq_zero (by omega)
      have HF : Hid (∃ o, o.Perm (x ++ y) ∧ Ord.Srt (keysOf K) o ∧ RowPart 39 (ev2 K) wr d (preD ++ o) (Z.drop (nz * 2)) ∧ w.grownBy wr (some d)) := by
        refine ⟨o, ?_, hst.mrg.so, ?_, hgr⟩
        · have := hst.perm; rw [e1, e2] at this; simpa using this
        · rw [show nz = nk by omega]; exact hr
      clear hst hr hgr hlens hlo hnk hzl e1 e2
      go_wp2
      go_end0
      exact ⟨rfl, HF.out⟩
end Go.Proofs.Qxb6500664a
