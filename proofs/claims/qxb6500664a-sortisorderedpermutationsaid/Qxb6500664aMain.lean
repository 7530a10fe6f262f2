/-
  'codeclaw.SortIsOrderedPermutation' (function 3): the walk.
-/
import Derived.Test.Qxb6500664aSeen
import Derived.BigQuiet
import Derived.Deep.DeepCutAuto
import Derived.Deep.RegionWith
import Derived.Deep.RegionHeld3
namespace Go.Proofs.Qxb6500664a
open Go.RowKit

set_option maxRecDepth 100000 in
set_option maxHeartbeats 16000000 in
theorem sort_some (w : World) (b off n cap : Nat) (D : Nat → OD) (hb : b < w.heap.size) (h : ScriptAt w (some ⟨b, off, none⟩) n cap D) (hD : ∀ i, i < n → OpAt w b (off + i * 8) (D i)) :
    Calls Try.prog 3 #[.slice (some ⟨b, off, none⟩) n cap] w fun e w' => e = .returned (.bool true) ∧ Below w.heap.size w w' := by
  go_enter Try.func3, Try.ntmps3
  go_wp2_with fail
  refine (small_any w (some ⟨b, off, none⟩) n cap D h).mono ?_
  rintro e w1 ⟨r, rfl, rfl, hr⟩
  cases r with
  | false =>
    go_wp2_with fail
    go_ret
    exact ⟨rfl, Below.refl _ _⟩
  | true =>
  have hs := hr rfl
  have hn : n ≤ 65536 := by unfold SmallS at hs; omega
  clear h
  clear hr
  go_wp2_with fail
  go_loopw [24] (fun i wr => ∃ (k : Nat), i = .int .i64 (k : Int) ∧ k ≤ n ∧ Below w1.heap.size w1 wr) (fun i _ => n - (intOf i).toNat)
  case atStart => exact ⟨0, rfl, by omega, Below.refl _ _⟩
  case round =>
    obtain ⟨k, rfl, hk, hbel⟩ := hrel
    by_cases hlt : k < n
    · have hop := hD k hlt
      have q0 := (hbel.cell (p := ⟨b, off + k * 8, none⟩) hb).trans hop.c0
      have q1 := (hbel.cell (p := ⟨b, off + k * 8 + 1, none⟩) hb).trans hop.c1
      have q2 := (hbel.cell (p := ⟨b, off + k * 8 + 2, none⟩) hb).trans hop.c2
      have q3 := (hbel.cell (p := ⟨b, off + k * 8 + 3, none⟩) hb).trans hop.c3
      have q4 := (hbel.cell (p := ⟨b, off + k * 8 + 4, none⟩) hb).trans hop.c4
      have q5 := (hbel.cell (p := ⟨b, off + k * 8 + 5, none⟩) hb).trans hop.c5
      have q6 := (hbel.cell (p := ⟨b, off + k * 8 + 6, none⟩) hb).trans hop.c6
      have q7 := (hbel.cell (p := ⟨b, off + k * 8 + 7, none⟩) hb).trans hop.c7
      have hpn : (D k).pn ≤ 65536 := by
        have h1 := tot_le (fun i => wt (D i)) hlt
        have h2 : (D k).pn ≤ wt (D k) := by simp only [wt]; omega
        unfold SmallS at hs
        have h3 : wt (D k) ≤ tot (fun i => wt (D i)) n := h1
        omega
      have HD : Hid (∀ i, i < n → OpAt w1 b (off + i * 8) (D i)) := hD
      have HOP : Hid (OpAt w1 b (off + k * 8) (D k)) := hop
      have HBEL : Hid (Below w1.heap.size w1 wr) := hbel
      clear hD hop hbel
      generalize D k = d at *
      have hmk1 := make_items d.pn hpn
      have hmk2 := make_bytes d.pn hpn
      have hmk3 := make_pairs d.pn hpn
      obtain ⟨PA, hPA⟩ : ∃ PA, PA = d.pa := ⟨_, rfl⟩
      rw [← hPA] at q7
      have HPA : Hid (PA = d.pa) := hPA
      clear hPA
      go_wp2_with fail
      generalize hw5 : (((((wr.alloc (.cells #[.int .u8 d.kind, .int .u8 d.ty, .int .u64 d.num, .slice d.data.a d.data.l.length d.data.cap, .int .u8 d.rkind, .slice d.key.a d.key.l.length d.key.cap, .slice d.fa d.fn d.fcap, .slice PA d.pn d.pcap] 33)).alloc (.cells (madeCells #[.slice none 0 0, .int .i64 0] (d.pn * 2)) 39)).alloc (.cells (madeCells #[.slice none 0 0] d.pn) 27)).alloc (.cells #[.slice (some ⟨wr.heap.size + 1 + 1, 0, none⟩) d.pn d.pn] 35)).alloc (.cells (madeCells #[.slice none 0 0, .slice none 0 0] (d.pn * 2)) 37)) = w5
      have HF : FillSt w1 w5 d wr.heap.size (wr.heap.size + 1) (wr.heap.size + 1 + 1 + 1) (wr.heap.size + 1 + 1) (wr.heap.size + 1 + 1 + 1 + 1) 0 := by
        rw [← hw5, HPA.out]
        exact FillSt.start HBEL.out
      clear hw5
      generalize wr.heap.size + 1 + 1 + 1 + 1 = pr at HF ⊢
      generalize wr.heap.size + 1 + 1 + 1 = kb at HF ⊢
      generalize wr.heap.size + 1 + 1 = kr at HF ⊢
      generalize wr.heap.size + 1 = ib at HF ⊢
      generalize wr.heap.size = ob at HF ⊢
      have HPS : Hid (0 < d.pn → ∃ pb po, PA = some ⟨pb, po, none⟩ ∧ ∀ j, j < d.pn → w1.cell? ⟨pb, po + j * 2, none⟩ = some (.slice (kOf d j).a (kOf d j).l.length (kOf d j).cap) ∧ w1.cell? ⟨pb, po + j * 2 + 1, none⟩ = some (.slice (vOf d j).a (vOf d j).l.length (vOf d j).cap)) := by
        intro h0
        obtain ⟨pb, po, h1, h2⟩ := HOP.out.ps.at_ h0
        exact ⟨pb, po, HPA.out.trans h1, fun j hj => ⟨(h2 j hj).1, (h2 j hj).2.1⟩⟩
      clear q0 q1 q2 q3 q4 q5 q6 q7 hmk1 hmk2 hmk3 HBEL
      obtain ⟨wo, hwo⟩ : ∃ wo : World, wo = wr := ⟨_, rfl⟩
      have HFS : Hid (FillSt w1 w5 d ob ib kb kr pr 0) := HF
      clear hwo HF
      go_loopw [40] (fun iv wr => ∃ (i : Nat), iv = .int .i64 (i : Int) ∧ i ≤ d.pn ∧ FillSt w1 wr d ob ib kb kr pr i) (fun iv _ => d.pn - (intOf iv).toNat)
      case atStart => exact ⟨0, rfl, by omega, HFS.out⟩
      case round =>
        obtain ⟨i, rfl, hi, hfs⟩ := hrel
        by_cases hil : i < d.pn
        · obtain ⟨pb, po, rfl, hpc⟩ := HPS.out (by omega)
          obtain ⟨g0, g1⟩ := hpc i hil
          have hpb : pb < w1.heap.size := cell_lt g0
          have r0 := (hfs.blk.bel.cell (p := ⟨pb, po + i * 2, none⟩) hpb).trans g0
          have r1 := (hfs.blk.bel.cell (p := ⟨pb, po + i * 2 + 1, none⟩) hpb).trans g1
          have HFS2 : Hid (FillSt w1 wr d ob ib kb kr pr i) := hfs
          clear hfs g0 g1 hpc
          go_wp2_with fail
          generalize hwa : wr.alloc (.cells #[.slice (kOf d i).a (kOf d i).l.length (kOf d i).cap, .slice (vOf d i).a (vOf d i).l.length (vOf d i).cap] 37) = wa
          have hx0 : wa.cell? ⟨wr.heap.size, 0, none⟩ = some (.slice (kOf d i).a (kOf d i).l.length (kOf d i).cap) := by rw [← hwa, World.cell?_alloc_at (hn := rfl)]; rfl
          have hx1 : wa.cell? ⟨wr.heap.size, 1, none⟩ = some (.slice (vOf d i).a (vOf d i).l.length (vOf d i).cap) := by rw [← hwa, World.cell?_alloc_at (hn := rfl)]; rfl
          have HFA : Hid (FillSt w1 wa d ob ib kb kr pr i) := HFS2.out.below (by rw [← hwa]; exact (Below.refl _ _).alloc (Nat.le_refl _) _)
          obtain ⟨⟨y1, b1⟩, ⟨y2, b2⟩, ⟨y3, b3⟩, ⟨y4, b4⟩, ⟨y5, b5⟩, _, _, _, b6⟩ := HFS2.out.places hil
          have l1 : ib < wr.heap.size := cell_lt b1
          have l3 : kr < wr.heap.size := cell_lt b3
          have l4 : pr < wr.heap.size := cell_lt b4
          have l6 : kb < wr.heap.size := cell_lt b6
          clear b1 b2 b3 b4 b5 b6 r0 r1 hwa HFS2
          generalize wr.heap.size = xb at *
          obtain ⟨⟨v1, c1⟩, ⟨v2, c2⟩, ⟨v3, c3⟩, ⟨v4, c4⟩, ⟨v5, c5⟩, f1, f2, f3, c6⟩ := HFA.out.places hil
          have n1 : ib ≠ kr := by have := HFA.out.blk.o2; omega
          have n2 : ib ≠ pr := by have := HFA.out.blk.o2; have := HFA.out.blk.o3; have := HFA.out.blk.o4; omega
          have n3 : kr ≠ pr := by have := HFA.out.blk.o3; have := HFA.out.blk.o4; omega
          have n4 : ib ≠ kb := by have := HFA.out.blk.o2; have := HFA.out.blk.o3; omega
          have n5 : kr ≠ kb := by have := HFA.out.blk.o3; omega
          have n6 : kb ≠ pr := by have := HFA.out.blk.o4; omega
          have n7 : ib ≠ xb := by omega
          have n8 : kr ≠ xb := by omega
          have n9 : pr ≠ xb := by omega
          have f10 := f1 (i * 2)
          have f11 := f1 (i * 2 + 1)
          have f20 := f2 i
          have f30 := f3 (i * 2)
          have f31 := f3 (i * 2 + 1)
          have hil2 : (i : Int) < (d.pn : Int) := by omega
          clear f1 f2 f3 l1 l3 l4 l6
          have HNX : Hid (FillSt w1 (((((wa.setCell ⟨ib, i * 2, none⟩ (.slice (kOf d i).a (kOf d i).l.length (kOf d i).cap)).setCell ⟨ib, i * 2 + 1, none⟩ (.int .i64 (i : Int))).setCell ⟨kr, i, none⟩ (.slice (kOf d i).a (kOf d i).l.length (kOf d i).cap)).setCell ⟨pr, i * 2, none⟩ (.slice (kOf d i).a (kOf d i).l.length (kOf d i).cap)).setCell ⟨pr, i * 2 + 1, none⟩ (.slice (vOf d i).a (vOf d i).l.length (vOf d i).cap)).drew d ob ib kb kr pr (i + 1)) := (HFA.out.step hil).below ((Below.refl _ _).drew)
          go_region
          go_wp2_with fail
          go_roundw
          case rel => exact ⟨i + 1, by go_num, by omega, HNX.out⟩
          case measure => simp [intOf]; omega
        · obtain rfl : i = d.pn := by omega
          have HK : Hid (∀ t, t < d.pn → (kOf d t).At w1) := fun t ht => let ⟨_, _, _, h2⟩ := HOP.out.ps.at_ (by omega); (h2 t ht).2.2.1
          have HC1 : Hid (Calls Try.prog 8 #[.slice (some ⟨ib, 0, none⟩) d.pn d.pn, .func (.func 9) #[] #[]] wr fun e w' => e = .returned (.tuple #[]) ∧ ∃ p, St1 w1 w' d ob ib kb kr pr p) := call1 hfs HK.out hpn
          clear hfs
          go_wp2_with fail
          refine HC1.out.mono ?_
          rintro e w2 ⟨rfl, p, hst1⟩
          have HC2 : Hid (Calls Try.prog 11 #[.slice (some ⟨kr, 0, none⟩) d.pn d.pn] w2 fun e w' => e = .returned (.tuple #[]) ∧ St2 w1 w' d ob ib kb kr pr p) := call2 hst1 HK.out hpn
          have hkc := hst1.blk.kcell
          clear hst1 HC1
          go_wp2_with fail
          refine HC2.out.mono ?_
          rintro e w3 ⟨rfl, hst2⟩
          have HC3 : Hid (Calls Try.prog 12 #[.slice (some ⟨pr, 0, none⟩) d.pn d.pn] w3 fun e w' => e = .returned (.tuple #[]) ∧ SortedSt w1 w' d ob ib kb kr pr p) := call3 hst2 HK.out hpn
          clear hst2 HC2 hkc
          go_wp2_with fail
          refine HC3.out.mono ?_
          rintro e w4 ⟨rfl, hst⟩
          have HST : Hid (SortedSt w1 w4 d ob ib kb kr pr p) := hst
          have hkc := hst.blk.kcell
          have hmk4 := make_bools d.pn hpn
          clear hst HC3
          go_wp2_with fail
          have HSN : SeenSt w1 (w4.alloc (.cells (madeCells #[.bool false] d.pn) 4)) d ob ib kb kr pr w4.heap.size p 0 := SeenSt.start HST.out
          generalize w4.alloc (.cells (madeCells #[.bool false] d.pn) 4) = w6 at HSN ⊢
          generalize w4.heap.size = sn at HSN ⊢
          have HSE0 : Hid (SeenSt w1 w6 d ob ib kb kr pr sn p 0) := HSN
          clear HSN HST hkc hmk4
          go_loopw [88] (fun iv wr => ∃ (i : Nat), iv = .int .i64 (i : Int) ∧ i ≤ d.pn ∧ SeenSt w1 wr d ob ib kb kr pr sn p i) (fun iv _ => d.pn - (intOf iv).toNat)
          case atStart => exact ⟨0, rfl, by omega, HSE0.out⟩
          case round =>
            obtain ⟨i, rfl, hi, hse⟩ := hrel
            by_cases hil : i < d.pn
            · obtain ⟨pb, po, rfl, hpc⟩ := HPS.out (by omega)
              obtain ⟨t, htn, hpt, _, c1, c2, c3, c4, c5, c6, f6⟩ := hse.facts hil
              obtain ⟨g0, g1⟩ := hpc t htn
              have hpb : pb < w1.heap.size := cell_lt g0
              have r0 := (hse.st.blk.bel.cell (p := ⟨pb, po + t * 2, none⟩) hpb).trans g0
              have r1 := (hse.st.blk.bel.cell (p := ⟨pb, po + t * 2 + 1, none⟩) hpb).trans g1
              have o7 : wr.cell? ⟨ob, 7, none⟩ = some (.slice (some ⟨pb, po, none⟩) d.pn d.pcap) := by rw [HPA.out]; exact hse.st.blk.ocell.2
              have hkc := hse.st.blk.kcell
              have HSE : Hid (SeenSt w1 wr d ob ib kb kr pr sn p i) := hse
              have HPT : Hid (p[i]? = some t) := hpt
              clear hse hpt g0 g1 hpc
              go_wp2_with fail
              generalize hwa : wr.alloc (.cells #[.slice (kOf d t).a (kOf d t).l.length (kOf d t).cap, .int .i64 (t : Int)] 39) = wa
              have hx0 : wa.cell? ⟨wr.heap.size, 0, none⟩ = some (.slice (kOf d t).a (kOf d t).l.length (kOf d t).cap) := by rw [← hwa, World.cell?_alloc_at (hn := rfl)]; rfl
              have hx1 : wa.cell? ⟨wr.heap.size, 1, none⟩ = some (.int .i64 (t : Int)) := by rw [← hwa, World.cell?_alloc_at (hn := rfl)]; rfl
              have hal : ∀ (q : Addr) (v : Value), wr.cell? q = some v → wa.cell? q = some v := fun q v hv => by rw [← hwa]; exact Lib.cell?_alloc_marked _ hv
              have hsn : sn < wr.heap.size := cell_lt c6
              have HSA : Hid (SeenSt w1 wa d ob ib kb kr pr sn p i) := HSE.out.below (by rw [← hwa]; exact (Below.refl _ _).alloc (Nat.le_refl _) _)
              replace c1 := hal _ _ c1
              replace c2 := hal _ _ c2
              replace c3 := hal _ _ c3
              replace c4 := hal _ _ c4
              replace c5 := hal _ _ c5
              replace c6 := hal _ _ c6
              replace r0 := hal _ _ r0
              replace r1 := hal _ _ r1
              replace o7 := hal _ _ o7
              replace hkc := hal _ _ hkc
              have f6a : wa.frozen? ⟨sn, t, none⟩ = false := Joins.unfrozen_of_block HSA.out.seen t
              clear hal hwa f6 HSE
              generalize wr.heap.size = xb at *
              have HCK : Hid (∀ (s : BSl) (W : World), s.At W → Calls Try.prog 13 #[.slice s.a s.l.length s.cap, .slice s.a s.l.length s.cap] W fun e w' => e = .returned (.bool true) ∧ ∃ n, w' = W.drewN n) := fun s W hs => same_any W s s hs hs rfl
              have HKT : Hid ((kOf d t).At wa) := key_in (HK.out t htn) HSA.out.st.blk.bel
              have ht2 : (t : Int) < (d.pn : Int) := by omega
              have dt0 : decide ((t : Int) < 0) = false := by simp
              have dt1 : decide (d.pn ≤ t) = false := by simp; omega
              go_quiet ((go_at_call 13; exact Calls.quiet_of (HCK.out _ _ (At_drewN HKT.out _))))
              go_upto_region 27 with fail
              generalize hwb : (wa.drewN nq).setCell ⟨sn, t, none⟩ (.bool true) = wb
              have hgr : wa.grownBy wb (some sn) := by rw [← hwb]; exact grown_trans (b := wa.drewN nq) (grown_below (below_drewN (Below.refl _ _) _) _) (grown_set _)
              have HSB : Hid (SeenSt w1 wb d ob ib kb kr pr sn p (i + 1)) := by show SeenSt w1 wb d ob ib kb kr pr sn p (i + 1); rw [← hwb]; exact (HSA.out.below (w' := wa.drewN nq) (below_drewN (Below.refl _ _) _)).mark HPT.out
              have q0 := HSA.out.st.blk.o1
              have q1 := HSA.out.st.blk.o2
              have q2 := HSA.out.st.blk.o3
              have q3 := HSA.out.st.blk.o4
              have q4 := HSA.out.hi
              have q5 := HSA.out.st.blk.lo
              replace c1 := cell_other hgr (show ib ≠ sn by omega) c1
              replace c2 := cell_other hgr (show ib ≠ sn by omega) c2
              replace c3 := cell_other hgr (show kr ≠ sn by omega) c3
              replace c4 := cell_other hgr (show pr ≠ sn by omega) c4
              replace c5 := cell_other hgr (show pr ≠ sn by omega) c5
              replace r0 := cell_other hgr (show pb ≠ sn by omega) r0
              replace r1 := cell_other hgr (show pb ≠ sn by omega) r1
              replace o7 := cell_other hgr (show ob ≠ sn by omega) o7
              replace hkc := cell_other hgr (show kb ≠ sn by omega) hkc
              replace hx0 := cell_other hgr (show xb ≠ sn by omega) hx0
              replace hx1 := cell_other hgr (show xb ≠ sn by omega) hx1
              clear hwb hgr q0 q1 q2 q3 q4 q5 c6 f6a hsn HSA HKT
              have HKT : Hid ((kOf d t).At wb) := key_in (HK.out t htn) HSB.out.st.blk.bel
              have HV : Hid (∀ t, t < d.pn → (vOf d t).At w1) := fun t ht => let ⟨_, _, _, h2⟩ := HOP.out.ps.at_ (by omega); (h2 t ht).2.2.2
              cases i with
              | zero =>
                go_upto_region 32 with fail
                generalize hwc : wb.alloc (.cells #[.slice (kOf d t).a (kOf d t).l.length (kOf d t).cap, .slice (vOf d t).a (vOf d t).l.length (vOf d t).cap] 37) = wc
                have hy0 : wc.cell? ⟨wb.heap.size, 0, none⟩ = some (.slice (kOf d t).a (kOf d t).l.length (kOf d t).cap) := by rw [← hwc, World.cell?_alloc_at (hn := rfl)]; rfl
                have hy1 : wc.cell? ⟨wb.heap.size, 1, none⟩ = some (.slice (vOf d t).a (vOf d t).l.length (vOf d t).cap) := by rw [← hwc, World.cell?_alloc_at (hn := rfl)]; rfl
                have hal : ∀ (q : Addr) (v : Value), wb.cell? q = some v → wc.cell? q = some v := fun q v hv => by rw [← hwc]; exact Lib.cell?_alloc_marked _ hv
                have HSC : Hid (SeenSt w1 wc d ob ib kb kr pr sn p (0 + 1)) := HSB.out.below (by rw [← hwc]; exact (Below.refl _ _).alloc (Nat.le_refl _) _)
                replace c1 := hal _ _ c1
                replace c3 := hal _ _ c3
                replace c4 := hal _ _ c4
                replace c5 := hal _ _ c5
                replace hkc := hal _ _ hkc
                replace hx0 := hal _ _ hx0
                have HKC : Hid ((kOf d t).At wc) := key_in (HK.out t htn) HSC.out.st.blk.bel
                have HVC : Hid ((vOf d t).At wc) := key_in (HV.out t htn) HSC.out.st.blk.bel
                clear hal hwc r0 r1 o7 c2 hx1 HKT HSB
                generalize wb.heap.size = yb at *
                go_quiet (first | (go_at_call 13; exact Calls.quiet_of (HCK.out _ _ (At_drewN HKC.out _))) | (go_at_call 13; exact Calls.quiet_of (HCK.out _ _ (At_drewN HVC.out _))))
                go_wp2_with fail
                go_roundw
                case rel => exact ⟨0 + 1, by go_num, by omega, HSC.out.below (below_drewN (Below.refl _ _) _)⟩
                case measure => simp [intOf]; omega
              | succ m =>
                obtain ⟨s, hsn2, e1, e2, hR⟩ := HSB.out.prev hil HPT.out
                have HKS : Hid ((kOf d s).At wb) := key_in (HK.out s hsn2) HSB.out.st.blk.bel
                have hm2 : (m : Int) < (d.pn : Int) := by omega
                rcases R_cases hR with hcm | ⟨hcm, hst2⟩
                · clear hR
                  have HCM : Hid (∀ W : World, (kOf d s).At W → (kOf d t).At W → Calls Try.prog 14 #[.slice (kOf d s).a (kOf d s).l.length (kOf d s).cap, .slice (kOf d t).a (kOf d t).l.length (kOf d t).cap] W fun e w' => e = .returned (.int .i64 (-1)) ∧ ∃ n, w' = W.drewN n) := fun W h1 h2 => by
                    have := mcompare_any _ W (kOf d s) (kOf d t) rfl h1 h2
                    rw [show Ord.cmp (kOf d s).l (kOf d t).l = -1 from hcm] at this
                    exact this
                  clear hcm
                  go_upto_region 28 with fail
                  go_quiet ((go_at_call 14; exact Calls.quiet_of (HCM.out _ (At_drewN HKS.out _) (At_drewN HKT.out _))))
                  go_upto_region 29 with fail
                  have hdr : ∀ (q : Addr) (v : Value), wb.cell? q = some v → (wb.drewN nq).cell? q = some v := fun _ _ h => h
                  have HSD : Hid (SeenSt w1 (wb.drewN nq) d ob ib kb kr pr sn p (m + 1 + 1)) := HSB.out.below (below_drewN (Below.refl _ _) _)
                  replace c1 := hdr _ _ c1
                  replace c2 := hdr _ _ c2
                  replace c3 := hdr _ _ c3
                  replace c4 := hdr _ _ c4
                  replace c5 := hdr _ _ c5
                  replace r0 := hdr _ _ r0
                  replace r1 := hdr _ _ r1
                  replace o7 := hdr _ _ o7
                  replace hkc := hdr _ _ hkc
                  replace hx0 := hdr _ _ hx0
                  replace hx1 := hdr _ _ hx1
                  replace e1 := hdr _ _ e1
                  replace e2 := hdr _ _ e2
                  clear hdr HSB HKT HKS
                  generalize wb.drewN nq = wd at *
                  go_quiet (fail)
                  have hdr2 : ∀ (q : Addr) (v : Value), wd.cell? q = some v → (wd.drewN nq).cell? q = some v := fun _ _ h => h
                  have HSF : Hid (SeenSt w1 (wd.drewN nq) d ob ib kb kr pr sn p (m + 1 + 1)) := HSD.out.below (below_drewN (Below.refl _ _) _)
                  replace c1 := hdr2 _ _ c1
                  replace c2 := hdr2 _ _ c2
                  replace c3 := hdr2 _ _ c3
                  replace c4 := hdr2 _ _ c4
                  replace c5 := hdr2 _ _ c5
                  replace r0 := hdr2 _ _ r0
                  replace r1 := hdr2 _ _ r1
                  replace o7 := hdr2 _ _ o7
                  replace hkc := hdr2 _ _ hkc
                  replace hx0 := hdr2 _ _ hx0
                  replace hx1 := hdr2 _ _ hx1
                  clear hdr2 HSD e1 e2
                  generalize wd.drewN nq = we at *
                  go_upto_region 32 with fail
                  generalize hwc : we.alloc (.cells #[.slice (kOf d t).a (kOf d t).l.length (kOf d t).cap, .slice (vOf d t).a (vOf d t).l.length (vOf d t).cap] 37) = wc
                  have hy0 : wc.cell? ⟨we.heap.size, 0, none⟩ = some (.slice (kOf d t).a (kOf d t).l.length (kOf d t).cap) := by rw [← hwc, World.cell?_alloc_at (hn := rfl)]; rfl
                  have hy1 : wc.cell? ⟨we.heap.size, 1, none⟩ = some (.slice (vOf d t).a (vOf d t).l.length (vOf d t).cap) := by rw [← hwc, World.cell?_alloc_at (hn := rfl)]; rfl
                  have hal : ∀ (q : Addr) (v : Value), we.cell? q = some v → wc.cell? q = some v := fun q v hv => by rw [← hwc]; exact Lib.cell?_alloc_marked _ hv
                  have HSC : Hid (SeenSt w1 wc d ob ib kb kr pr sn p (m + 1 + 1)) := HSF.out.below (by rw [← hwc]; exact (Below.refl _ _).alloc (Nat.le_refl _) _)
                  replace c1 := hal _ _ c1
                  replace c3 := hal _ _ c3
                  replace c4 := hal _ _ c4
                  replace c5 := hal _ _ c5
                  replace hkc := hal _ _ hkc
                  replace hx0 := hal _ _ hx0
                  have HKC : Hid ((kOf d t).At wc) := key_in (HK.out t htn) HSC.out.st.blk.bel
                  have HVC : Hid ((vOf d t).At wc) := key_in (HV.out t htn) HSC.out.st.blk.bel
                  clear hal hwc r0 r1 o7 c2 hx1 HSF
                  generalize we.heap.size = yb at *
                  go_quiet (first | (go_at_call 13; exact Calls.quiet_of (HCK.out _ _ (At_drewN HKC.out _))) | (go_at_call 13; exact Calls.quiet_of (HCK.out _ _ (At_drewN HVC.out _))))
                  go_wp2_with fail
                  go_roundw
                  case rel => exact ⟨m + 1 + 1, by go_num, by omega, HSC.out.below (below_drewN (Below.refl _ _) _)⟩
                  case measure => simp [intOf]; omega
                · clear hR
                  have HCM : Hid (∀ W : World, (kOf d s).At W → (kOf d t).At W → Calls Try.prog 14 #[.slice (kOf d s).a (kOf d s).l.length (kOf d s).cap, .slice (kOf d t).a (kOf d t).l.length (kOf d t).cap] W fun e w' => e = .returned (.int .i64 (0)) ∧ ∃ n, w' = W.drewN n) := fun W h1 h2 => by
                    have := mcompare_any _ W (kOf d s) (kOf d t) rfl h1 h2
                    rw [show Ord.cmp (kOf d s).l (kOf d t).l = 0 from hcm] at this
                    exact this
                  have dst2 : decide (t < s) = false := by simp; omega
                  clear hcm
                  go_upto_region 28 with fail
                  go_quiet ((go_at_call 14; exact Calls.quiet_of (HCM.out _ (At_drewN HKS.out _) (At_drewN HKT.out _))))
                  go_upto_region 29 with fail
                  have hdr : ∀ (q : Addr) (v : Value), wb.cell? q = some v → (wb.drewN nq).cell? q = some v := fun _ _ h => h
                  have HSD : Hid (SeenSt w1 (wb.drewN nq) d ob ib kb kr pr sn p (m + 1 + 1)) := HSB.out.below (below_drewN (Below.refl _ _) _)
                  replace c1 := hdr _ _ c1
                  replace c2 := hdr _ _ c2
                  replace c3 := hdr _ _ c3
                  replace c4 := hdr _ _ c4
                  replace c5 := hdr _ _ c5
                  replace r0 := hdr _ _ r0
                  replace r1 := hdr _ _ r1
                  replace o7 := hdr _ _ o7
                  replace hkc := hdr _ _ hkc
                  replace hx0 := hdr _ _ hx0
                  replace hx1 := hdr _ _ hx1
                  replace e1 := hdr _ _ e1
                  replace e2 := hdr _ _ e2
                  clear hdr HSB HKT HKS
                  generalize wb.drewN nq = wd at *
                  go_quiet (fail)
                  have hdr2 : ∀ (q : Addr) (v : Value), wd.cell? q = some v → (wd.drewN nq).cell? q = some v := fun _ _ h => h
                  have HSF : Hid (SeenSt w1 (wd.drewN nq) d ob ib kb kr pr sn p (m + 1 + 1)) := HSD.out.below (below_drewN (Below.refl _ _) _)
                  replace c1 := hdr2 _ _ c1
                  replace c2 := hdr2 _ _ c2
                  replace c3 := hdr2 _ _ c3
                  replace c4 := hdr2 _ _ c4
                  replace c5 := hdr2 _ _ c5
                  replace r0 := hdr2 _ _ r0
                  replace r1 := hdr2 _ _ r1
                  replace o7 := hdr2 _ _ o7
                  replace hkc := hdr2 _ _ hkc
                  replace hx0 := hdr2 _ _ hx0
                  replace hx1 := hdr2 _ _ hx1
                  clear hdr2 HSD e1 e2
                  generalize wd.drewN nq = we at *
                  go_upto_region 32 with fail
                  generalize hwc : we.alloc (.cells #[.slice (kOf d t).a (kOf d t).l.length (kOf d t).cap, .slice (vOf d t).a (vOf d t).l.length (vOf d t).cap] 37) = wc
                  have hy0 : wc.cell? ⟨we.heap.size, 0, none⟩ = some (.slice (kOf d t).a (kOf d t).l.length (kOf d t).cap) := by rw [← hwc, World.cell?_alloc_at (hn := rfl)]; rfl
                  have hy1 : wc.cell? ⟨we.heap.size, 1, none⟩ = some (.slice (vOf d t).a (vOf d t).l.length (vOf d t).cap) := by rw [← hwc, World.cell?_alloc_at (hn := rfl)]; rfl
                  have hal : ∀ (q : Addr) (v : Value), we.cell? q = some v → wc.cell? q = some v := fun q v hv => by rw [← hwc]; exact Lib.cell?_alloc_marked _ hv
                  have HSC : Hid (SeenSt w1 wc d ob ib kb kr pr sn p (m + 1 + 1)) := HSF.out.below (by rw [← hwc]; exact (Below.refl _ _).alloc (Nat.le_refl _) _)
                  replace c1 := hal _ _ c1
                  replace c3 := hal _ _ c3
                  replace c4 := hal _ _ c4
                  replace c5 := hal _ _ c5
                  replace hkc := hal _ _ hkc
                  replace hx0 := hal _ _ hx0
                  have HKC : Hid ((kOf d t).At wc) := key_in (HK.out t htn) HSC.out.st.blk.bel
                  have HVC : Hid ((vOf d t).At wc) := key_in (HV.out t htn) HSC.out.st.blk.bel
                  clear hal hwc r0 r1 o7 c2 hx1 HSF
                  generalize we.heap.size = yb at *
                  go_quiet (first | (go_at_call 13; exact Calls.quiet_of (HCK.out _ _ (At_drewN HKC.out _))) | (go_at_call 13; exact Calls.quiet_of (HCK.out _ _ (At_drewN HVC.out _))))
                  go_wp2_with fail
                  go_roundw
                  case rel => exact ⟨m + 1 + 1, by go_num, by omega, HSC.out.below (below_drewN (Below.refl _ _) _)⟩
                  case measure => simp [intOf]; omega
            · obtain rfl : i = d.pn := by omega
              have hmf : ∀ (fn : Fn) (first cp : Array Value) (w : World), (Instr.makeFunc fn first cp).run Try.prog w = .ok (.func fn first cp) w := fun _ _ _ _ => rfl
              have HSO : Hid (SortedSt w1 wr d ob ib kb kr pr p) := hse.st
              have HDA : Hid (d.data.At w1) := HOP.out.data
              have hkc := hse.st.blk.kcell
              have ho3 := hse.st.blk.ocell.1
              have HSR : Hid (Calls Try.prog 15 #[.int .i64 (d.pn : Int), .func (.func 16) #[] #[.pointer (some ⟨kb, 0, none⟩), .pointer (some ⟨ob, 0, none⟩)]] wr (SearchPost (fun i => afterB (kOf d) d.data (p.getD i 0)) d.pn wr)) := hse.st.search HK.out HDA.out hpn
              clear hse
              go_wp2_with fail
              refine HSR.out.mono ?_
              rintro e w7 ⟨bd, rfl, hbd, hbf, mm, rfl⟩
              have HSO7 : Hid (SortedSt w1 (wr.drewN mm) d ob ib kb kr pr p) := HSO.out.below (below_drewN (Below.refl _ _) _)
              have hkc7 : (wr.drewN mm).cell? ⟨kb, 0, none⟩ = some (.slice (some ⟨kr, 0, none⟩) d.pn d.pn) := hkc
              have HBF : Hid (∀ i, i < d.pn → (afterB (kOf d) d.data (p.getD i 0) = true ↔ bd ≤ i)) := hbf
              clear hbf HSR HSO hkc ho3 hmf
              generalize wr.drewN mm = w7 at *
              have db0 : decide ((bd : Int) < 0) = false := by simp
              have db1 : decide (d.pn < bd) = false := by simp; omega
              go_wp2_with fail
              obtain ⟨w8, hw8⟩ : ∃ w8 : World, w8 = wr := ⟨_, rfl⟩
              clear hw8 hkc7
              go_loopw [203] (fun iv wr => ∃ (i : Nat), iv = .int .i64 (i : Int) ∧ i ≤ d.pn ∧ SortedSt w1 wr d ob ib kb kr pr p) (fun iv _ => d.pn - (intOf iv).toNat)
              case atStart => exact ⟨0, rfl, by omega, HSO7.out⟩
              case round =>
                obtain ⟨i, rfl, hi, hso⟩ := hrel
                by_cases hil : i < d.pn
                · obtain ⟨t, ht, htn, hp, hlen⟩ := hso.tag hil
                  have hks := hso.ks
                  rw [hp] at hks
                  have c3 := cell_row1 hks hlen
                  have ho3 := hso.blk.ocell.1
                  have hbi := HBF.out i hil
                  rw [ht] at hbi
                  have HS4 : Hid (SortedSt w1 wr d ob ib kb kr pr p) := hso
                  have HKT : Hid ((kOf d t).At wr) := key_in (HK.out t htn) hso.blk.bel
                  have HDW : Hid (d.data.At wr) := key_in HDA.out hso.blk.bel
                  obtain ⟨c, hcc⟩ : ∃ c, c = Ord.cmp (kOf d t).l d.data.l := ⟨_, rfl⟩
                  have HCM : Hid (Calls Try.prog 14 #[.slice (kOf d t).a (kOf d t).l.length (kOf d t).cap, .slice d.data.a d.data.l.length d.data.cap] wr fun e w' => e = .returned (.int .i64 c) ∧ ∃ n, w' = wr.drewN n) := by
                    show Calls _ _ _ _ _
                    rw [hcc]
                    exact mcompare_any _ wr (kOf d t) d.data rfl HKT.out HDW.out
                  have hcb : 0 ≤ c ↔ bd ≤ i := by
                    rw [← hbi, hcc]
                    simp [afterB]
                  clear hcc hbi hks hp hlen hso ht
                  have dcb : (!(decide (c < 0) == decide (i < bd))) = false := by
                    by_cases h1 : i < bd
                    · have h2 : c < 0 := by omega
                      simp [h1, h2]
                    · have h2 : ¬ c < 0 := by omega
                      simp [h1, h2]
                  clear hcb
                  go_wp2_with fail
                  refine HCM.out.mono ?_
                  rintro e w9 ⟨rfl, nn, rfl⟩
                  have HS5 : Hid (SortedSt w1 (wr.drewN nn) d ob ib kb kr pr p) := HS4.out.below (below_drewN (Below.refl _ _) _)
                  clear HS4 HKT HDW HCM c3 ho3
                  generalize wr.drewN nn = wx at *
                  go_wp2_with fail
                  go_roundw
                  case rel => exact ⟨i + 1, by go_num, by omega, HS5.out⟩
                  case measure => simp [intOf]; omega
                · have HBX : Hid (Below w1.heap.size w1 wr) := hso.blk.bel
                  clear hso
                  go_wp2_with fail
                  go_roundw
                  case rel => exact ⟨k + 1, by go_num, by omega, HBX.out⟩
                  case measure => simp [intOf]; omega
    · clear hD
      go_wp2_with fail
      go_ret
      exact ⟨rfl, hbel⟩

set_option maxRecDepth 100000 in
set_option maxHeartbeats 1000000 in
theorem sort_nil (w : World) (a : Option Addr) (cap : Nat) :
    Calls Try.prog 3 #[.slice a 0 cap] w fun e w' => e = .returned (.bool true) ∧ Below w.heap.size w w' := by
  go_enter Try.func3, Try.ntmps3
  go_wp2_with fail
  refine (small_nil w a cap).mono ?_
  rintro e w1 ⟨rfl, rfl⟩
  go_wp2_with fail
  refine wp_loop_rounds 1 ?_
  rw [rounds_succ]
  go_wp2_with fail
  go_ret
  exact ⟨rfl, Below.refl _ _⟩

theorem sort_walk (w : World) (a : Option Addr) (n cap : Nat) (D : Nat → OD) (h : ScriptAt w a n cap D) :
    Calls Try.prog 3 #[.slice a n cap] w fun e w' => e = .returned (.bool true) ∧ Below w.heap.size w w' := by
  rcases Nat.eq_zero_or_pos n with h0 | h0
  · subst h0
    exact sort_nil w a cap
  · obtain ⟨b, off, rfl, hD⟩ := h.at_ h0
    exact sort_some w b off n cap D (cell_lt (hD 0 h0).c0) h hD
end Go.Proofs.Qxb6500664a
