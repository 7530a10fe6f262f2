/-
  EveryPosition (3): the steps of the script.
-/
import Derived.Test.Qxb6500653aEvrF
import Derived.Test.Qxb6500653aEvrR
import Derived.Test.Qxb6500653aEvrP
import Derived.Test.Qxb6500653aEvrS
import Derived.Test.Qxb6500653aPlayOk
import Derived.Test.Qxb6500653aNewP
import Derived.Test.Qxb6500653aScript
namespace Go.Proofs.Qxb6500653a
open Go.RowKit

/-- the loop's state -/
def EvO (qb sb lb pb b off n cap : Nat) (w1 : World) (a' : Act) (wq : World) : Prop :=
  ∃ (T : Array Value) (k : Nat) (S : Sh) (V : Vw), a' = ⟨T, []⟩ ∧ T.size = 432 ∧ Knows T [(3, .pointer (some ⟨qb, 0, none⟩)), (34, .slice (some ⟨b, off, none⟩) n cap), (35, .int .i64 (n : Int)), (36, .int .i64 (k : Int))] ∧ k ≤ n ∧ GameAt wq qb sb lb S V ∧ (S.steps = k ∧ S.pb = pb) ∧ Kp no w1 wq
/-- its end -/
def EdO (w1 : World) (T' : Array Value) (w' : World) : Prop := T'.size = 432 ∧ Kp no w1 w'
set_option maxRecDepth 100000 in
set_option maxHeartbeats 400000000 in
theorem evr_o (D : Nat → Od) (qb sb lb pb b off n cap : Nat) (w1 : World) (Q : Exit → Act → World → Prop) (HDR : Hid DrawRowOk) (HPL : Hid PlayOk) (HD : Hid (∀ i, i < n → OpAt w1 b (off + i * 6) (D i))) (HSS : Hid (SmallS n D)) (HB : Hid (w1.heap.size ≤ sb ∧ w1.heap.size ≤ lb ∧ w1.heap.size ≤ pb)) (hn : n ≤ 140737488351232)
    (T : Array Value) (w : World) (hT : T.size = 432) (hk : Knows T [(3, .pointer (some ⟨qb, 0, none⟩)), (34, .slice (some ⟨b, off, none⟩) n cap), (35, .int .i64 (n : Int)), (36, .int .i64 0)]) (hg : GameAt w qb sb lb (Sh.new pb) ⟨0, 0, 0, 0⟩) (hK : Kp no w1 w)
    (hexit : ∀ (T' : Array Value) (w' : World), EdO w1 T' w' → Q (.exit 0) ⟨T', []⟩ w') :
    Code.wp Try.prog (.loop cOut) Q ⟨T, []⟩ w := by
  refine wp_exit hexit ?_
  clear hexit
  refine wp_loop (EvO qb sb lb pb b off n cap w1) (fun a' _ => n - (intOf (a'.tmps.getD 36 undef)).toNat) ⟨T, 0, _, _, rfl, hT, hk, Nat.zero_le _, hg, ⟨rfl, rfl⟩, hK⟩ ?_
  clear hT hk hg hK T w
  rintro a' wr ⟨T, k, S, V, rfl, hT, hk, hkn, hg, hsp, kr⟩
  have HG : Hid (GameAt wr qb sb lb S V) := hg
  have HSP : Hid (S.steps = k ∧ S.pb = pb) := hsp
  clear hg hsp
  obtain ⟨f, hfT, hf⟩ := lit432 T hT
  obtain ⟨h3, h34, h35, h36, _⟩ := hk
  rw [hf] at h3 h34 h35 h36
  clear hf hT
  subst hfT
  conv => arg 2; whnf
  simp only [h3, h34, h35, h36]
  clear h3 h34 h35 h36
  by_cases hlt : k < n
  · skip
    as_aux_lemma =>
      obtain ⟨o, ho⟩ : ∃ o, D k = o := ⟨_, rfl⟩
      have HO : Hid (OpAt wr b (off + k * 6) o) := by
        show OpAt _ _ _ _
        rw [← ho]
        have h0 := HD.out k hlt
        exact ⟨kr.cell h0.c0 id, kr.cell h0.c1 id, kr.cell h0.c2 id, kr.cell h0.c3 id, kr.cell h0.c4 id, kr.cell h0.c5 id, h0.max, h0.wa, h0.wb, h0.wc, h0.wd⟩
      have HTX : Hid (o.text.size ≤ 65536) := by show _ ≤ _; rw [← ho]; exact HSS.out.2 k hlt
      obtain ⟨kd, a, bb, c, d, tx⟩ := o
      have c0 := HO.out.c0
      have c1 := HO.out.c1
      have c2 := HO.out.c2
      have c3 := HO.out.c3
      have c4 := HO.out.c4
      have c5 := HO.out.c5
      obtain ⟨w5, hw5⟩ : ∃ w5, w5 = wr.alloc (.cells #[.int .i64 kd, .int .i64 a, .int .i64 bb, .int .i64 c, .int .i64 d, .string tx] 28) := ⟨_, rfl⟩
      obtain ⟨b5, hb5⟩ : ∃ b5, b5 = wr.heap.size := ⟨_, rfl⟩
      have HO5 : Hid (Bx6 w5 b5 (.int .i64 kd) (.int .i64 a) (.int .i64 bb) (.int .i64 c) (.int .i64 d) (.string tx)) := by
        show Bx6 _ _ _ _ _ _ _ _
        rw [hw5, hb5]; exact Bx6.made wr _ _ _ _ _ _ 28
      have HK5 : Hid (Kp no wr w5) := by show Kp _ _ _; rw [hw5]; exact (Kp.refl no wr).alloc _
      have HG5 : Hid (GameAt w5 qb sb lb S V) := HG.out.on HK5.out
      have HKR : Hid (Kp no w1 wr) := kr
      clear ho kr
      have i0 : (k : Int) < (n : Int) := by omega
      go_upto_region 7 with fail
      rw [← hw5, ← hb5]
      clear hw5 hb5 c0 c1 c2 c3 c4 c5 i0
      have p0 := HO5.out.c0
      have p1 := HO5.out.c1
      have p2 := HO5.out.c2
      have p3 := HO5.out.c3
      have p4 := HO5.out.c4
      have p5 := HO5.out.c5
      have HPC : Hid (Calls Try.prog 10 #[.pointer (some ⟨qb, 0, none⟩), .agg #[.int .i64 kd, .int .i64 a, .int .i64 bb, .int .i64 c, .int .i64 d, .string tx]] w5 (PlayPost qb sb lb S V ⟨kd, a, bb, c, d, tx⟩ w5)) := HPL.out w5 qb sb lb S V HG5.out (by have h1 := HSP.out.1; have h2 := HSS.out.1; omega) ⟨kd, a, bb, c, d, tx⟩ HTX.out
      go_wp2_with fail
      refine HPC.out.mono ?_
      rintro e wt ⟨av, S', V', rfl, kt, hgt, hst', hpb', _⟩
      have HGT : Hid (GameAt wt qb sb lb S' V') := hgt
      have HSP2 : Hid (S'.steps = k + 1 ∧ S'.pb = pb) := ⟨by rw [hst', HSP.out.1], by rw [hpb', HSP.out.2]⟩
      have HKT : Hid (Kp no w1 wt) := by
        have ka : Kp no w1 w5 := HKR.out.trans HK5.out
        exact ka.trans2 kt (fun j hj e => by
          have := gX_new HG5.out HB.out.1 HB.out.2.1 (by rw [HSP.out.2]; exact HB.out.2.2) e
          omega)
      have HFRM : Hid (∀ w', Kp no wt w' → Calls Try.prog 11 #[.pointer (some ⟨lb, 0, none⟩)] w' fun e w6 => ∃ fb, e = .returned (.pointer (some ⟨fb, 0, none⟩)) ∧ Kp (one lb) w' w6 ∧ LayAt w6 lb sb S' V' ∧ FrameAt w6 fb (frameOf S' V') ∧ w'.heap.size ≤ fb ∧ Cached w6 lb S' V' ∧ Kp (one lb) wt w6) := fun w' k' => by
        have hg := HGT.out.on k'
        refine (frameC_at HDR.out w' lb sb S' V' hg.sh hg.ok hg.lay hg.vok).mono ?_
        rintro e w6 ⟨fb, h1, h2, h3, h4, h5, h6⟩
        exact ⟨fb, h1, h2, h3, h4, h5, h6, (Kp.of_no k').trans h2⟩
      have HVIEW : Hid (∀ w', LayAt w' lb sb S' V' → Kp (one lb) wt w' → Calls Try.prog 12 #[.pointer (some ⟨lb, 0, none⟩)] w' fun e w'' => e = .returned (.agg #[.int .i64 (V'.fr : Int), .int .i64 (V'.fc : Int), .int .i64 (V'.sr : Int), .int .i64 (V'.sc : Int)]) ∧ Kp no w' w'' ∧ Kp (one lb) wt w'') := fun w' h' k' => (view_at w' lb sb S' V' h').mono fun e w'' hh => ⟨hh.1, hh.2, k'.trans (Kp.of_no hh.2)⟩
      have HQL : Hid (qb ≠ lb) := hgt.lb_ne.1
      have q1 := hgt.q1
      have hll : lb < wt.heap.size := hgt.lay.lt
      have hlq : qb < wt.heap.size := cell_lt q1
      clear p0 p1 p2 p3 p4 p5 kt hgt hst' hpb' HPC
      go_upto_region 8 with fail
      refine wp_mono (evr_f qb lb sb S' V' wt (.slice (some ⟨b, off, none⟩) n cap) (.int .i64 (n : Int)) (.int .i64 (k : Int)) HFRM HVIEW HQL q1 hll hlq _ (by kernel_rfl) ⟨by kernel_rfl, by kernel_rfl, by kernel_rfl, by kernel_rfl, trivial⟩) ?_
      clear q1 hll hlq HFRM HVIEW
      intro ex a8 w8 hq
      cases ex with
      | exit id => exact hq.elim
      | goto l => exact hq.elim
      | ret => exact hq.elim
      | panic ch => exact hq.elim
      | outgrown => exact hq.elim
      | normal =>
      obtain ⟨T', rfl, fb, vb, hT, hk, hv⟩ := hq
      obtain ⟨f8, hfT, hf⟩ := lit432 T' hT
      obtain ⟨h3, h34, h35, h36, h6, h7, _⟩ := hk
      rw [hf] at h3 h34 h35 h36 h6 h7
      clear hf hT
      subst hfT
      simp only [h3, h34, h35, h36, h6, h7]
      clear h3 h34 h35 h36 h6 h7
      have HV8 : Hid (VarFv wt lb sb S' V' fb vb w8) := hv
      have HG8 : Hid (GameAt w8 qb sb lb S' V') := HGT.out.call hv.kp hv.lay HGT.out.vok
      have HCH : Hid (Cached w8 lb S' V') := hv.cached
      have HK8 : Hid (Kp no w1 w8) := HKT.out.trans2 hv.kp (fun j hj e => by
        have e' : j = lb := e
        have := HB.out.2.1
        omega)
      have HF8 : Hid (FrameAt w8 fb (frameOf S' V')) := hv.frame
      have HFO : Hid (FOwn (frameOf S' V') S' V') := frame_own HG8.out.vok
      clear hv
      generalize frameOf S' V' = F at HF8 HFO
      obtain ⟨w9, hw9⟩ : ∃ w9, w9 = (w8.alloc (.cells Try.zeroCells47 47)).alloc (.cells Try.zeroCells47 47) := ⟨_, rfl⟩
      obtain ⟨cb, hcb⟩ : ∃ cb, cb = w8.heap.size := ⟨_, rfl⟩
      have HA9 : Hid (ArrAt w9 cb (fun _ _ => 0) ∧ ArrAt w9 (cb + 1) (fun _ _ => 0) ∧ Kp no w8 w9) := by
        show _ ∧ _ ∧ _
        rw [hw9, hcb]
        exact arr_two w8
      have HCB : Hid (w8.heap.size ≤ cb) := by show _ ≤ _; omega
      go_upto_region 10 with fail
      rw [← hw9, ← hcb]
      clear hw9 hcb
      obtain ⟨ib, hib⟩ : ∃ ib, ib = cb + 1 := ⟨_, rfl⟩
      rw [← hib] at HA9 ⊢
      have HIB : Hid (ib ≠ cb ∧ w8.heap.size ≤ ib) := by have := HCB.out; exact ⟨by omega, by omega⟩
      clear hib
      go_wp2_with fail
      refine evr_r qb sb lb fb vb cb ib S' V' F w8 (.slice (some ⟨b, off, none⟩) n cap) (.int .i64 (n : Int)) (.int .i64 (k : Int)) _ HG8 HCH HF8 HFO HCB HIB _ _ (by kernel_rfl) ⟨by kernel_rfl, by kernel_rfl, by kernel_rfl, by kernel_rfl, by kernel_rfl, by kernel_rfl, by kernel_rfl, by kernel_rfl, by kernel_rfl, trivial⟩ HA9.out.2.2 (HA9.out.1.cong (fun y x _ _ => (done_none S' V' y x).symm)) HA9.out.2.1 ?_
      clear HA9
      rintro T' w' ⟨hT, hk, k', hc', hi'⟩
      obtain ⟨O, hO⟩ : ∃ O : Nat → Nat → Nat, O = fun y x => if ownsAt S' V' y x = true then 1 else 0 := ⟨_, rfl⟩
      have HOO : Hid (∀ y x, O y x = if ownsAt S' V' y x = true then 1 else 0) := fun y x => by rw [hO]
      have HCO : Hid (ArrAt w' cb O) := hc'.cong (fun y x _ _ => by rw [done_all HG8.out.ok, HOO.out])
      have HIR : Hid (ArrAt w' ib (fun _ _ => 0)) := hi'
      have KR : Hid (Kp no w8 w') := k'
      clear hc' hi' k' hO
      obtain ⟨f', hfT, hf⟩ := lit432 T' hT
      obtain ⟨h3, h6, h7, h8, h9, h34, h35, h36, _⟩ := hk
      rw [hf] at h3 h6 h7 h8 h9 h34 h35 h36
      clear hf hT
      subst hfT
      simp only [h3, h6, h7, h8, h9, h34, h35, h36]
      clear h3 h6 h7 h8 h9 h34 h35 h36
      have HPN : Hid (Calls Try.prog 14 #[.pointer (some ⟨lb, 0, none⟩)] w' (PanesPostK lb sb S' V' w')) := by
        have hg := HG8.out.on KR.out
        exact panesK_at w' lb sb S' V' hg.sh hg.ok hg.lay (HCH.out.on KR.out) hg.vok
      have HPO : Hid (∀ P ∈ panesOf S' V', PaneOk S' V' P) := panes_ok HG8.out.vok
      have HPCT : Hid (∀ y x, y < 24 → x < 80 → cntP (panesOf S' V') y x = O y x) := fun y x hy hx => by rw [panes_cnt HG8.out.vok hy hx, HOO.out]
      have HPLN : Hid ((panesOf S' V').length ≤ 4) := accPn_len _ _ 2
      unfold PanesPostK at HPN
      generalize panesOf S' V' = L at HPN HPO HPCT HPLN
      have q1 := (HG8.out.on KR.out).q1
      go_wp2_with fail
      refine HPN.out.mono ?_
      rintro e w33 ⟨v, rfl, hrow, k33⟩
      obtain ⟨pp, cp, rfl, hg⟩ := panes_in hrow
      have HIG : Hid (ib < w'.heap.size) := HIR.out.lt
      have HGP : Hid (0 < L.length → ∃ g, pp = some ⟨g, 0, none⟩ ∧ g ≠ ib ∧ PnsAt w33 g L) := fun hp => by
        obtain ⟨g, g1, g2, g3⟩ := hg hp
        exact ⟨g, g1, by have := HIG.out; omega, g3⟩
      have HK33 : Hid (Kp no w8 w33) := KR.out.trans k33
      have HC33 : Hid (ArrAt w33 cb O) := HCO.out.kp k33 id
      have HI33 : Hid (ArrAt w33 ib (fun _ _ => 0)) := HIR.out.kp k33 id
      have HVW : Hid (w33.cell? ⟨vb, 0, none⟩ = some (.int .i64 (V'.fr : Int)) ∧ w33.cell? ⟨vb, 1, none⟩ = some (.int .i64 (V'.fc : Int)) ∧ w33.cell? ⟨vb, 2, none⟩ = some (.int .i64 (V'.sr : Int)) ∧ w33.cell? ⟨vb, 3, none⟩ = some (.int .i64 (V'.sc : Int))) := ⟨HK33.out.cell HV8.out.c0 id, HK33.out.cell HV8.out.c1 id, HK33.out.cell HV8.out.c2 id, HK33.out.cell HV8.out.c3 id⟩
      have HVI : Hid (vb ≠ ib) := by
        have h1 : vb < w8.heap.size := cell_lt HV8.out.c0
        have h2 := HIB.out.2
        show _ ≠ _; omega
      clear hg hrow k33 q1 HPN HCO HIR KR HIG
      go_wp2_with fail
      refine evr_p sb lb S' V' F w8 qb fb vb cb ib L pp cp w33 (.slice (some ⟨b, off, none⟩) n cap) (.int .i64 (n : Int)) (.int .i64 (k : Int)) _ HG8 HF8 HFO HIB HK33 HVW HVI HPLN.out HPO HGP _ (by kernel_rfl) ⟨by kernel_rfl, by kernel_rfl, by kernel_rfl, by kernel_rfl, by kernel_rfl, by kernel_rfl, by kernel_rfl, by kernel_rfl, by kernel_rfl, by kernel_rfl, by kernel_rfl, trivial⟩ HI33.out ?_
      clear HI33 HVW HVI HPO HGP
      rintro T'' w'' ⟨hT, hk, k', hi'⟩
      have HIO : Hid (ArrAt w'' ib O) := hi'.cong (fun y x hy hx => HPCT.out y x hy hx)
      have HCO : Hid (ArrAt w'' cb O) := HC33.out.kp k' (fun e => HIB.out.1 (Eq.symm e))
      have HKN : Hid (Kp no w8 w'') := HK33.out.trans2 k' (fun q hq e => by have e' : q = ib := e; have := HIB.out.2; omega)
      clear hi' k' HC33 HK33 HPCT HPLN
      obtain ⟨f'', hfT, hf⟩ := lit432 T'' hT
      obtain ⟨h3, h6, h7, h8, h9, h34, h35, h36, h157, h158, _⟩ := hk
      rw [hf] at h3 h6 h7 h8 h9 h34 h35 h36 h157 h158
      clear hf hT
      subst hfT
      simp only [h3, h6, h7, h8, h9, h34, h35, h36, h157, h158]
      clear h3 h6 h7 h8 h9 h34 h35 h36 h157 h158
      go_wp2_with fail
      refine evr_s sb lb S' V' F O w8 qb fb vb cb ib w'' (.slice (some ⟨b, off, none⟩) n cap) (.int .i64 (n : Int)) (.int .i64 (k : Int)) _ HG8 HCH HF8 HFO HKN HCO HIO HOO _ (by kernel_rfl) ⟨by kernel_rfl, by kernel_rfl, by kernel_rfl, by kernel_rfl, by kernel_rfl, by kernel_rfl, by kernel_rfl, by kernel_rfl, by kernel_rfl, trivial⟩ ?_
      clear HCO HIO HOO
      rintro T3 w3 ⟨hT, hk, k'⟩
      have HGZ : Hid (GameAt w3 qb sb lb S' V') := HG8.out.on (HKN.out.trans k')
      have HKZ : Hid (Kp no w1 w3) := HK8.out.trans (HKN.out.trans k')
      clear k'
      obtain ⟨f3, hfT, hf⟩ := lit432 T3 hT
      obtain ⟨h3, h6, h7, h8, h9, h34, h35, h36, _⟩ := hk
      rw [hf] at h3 h6 h7 h8 h9 h34 h35 h36
      clear hf hT
      subst hfT
      simp only [h3, h6, h7, h8, h9, h34, h35, h36]
      clear h3 h6 h7 h8 h9 h34 h35 h36
      go_wp2_with fail
      refine ⟨⟨_, k + 1, S', V', rfl, by kernel_rfl, ⟨by kernel_rfl, by kernel_rfl, by kernel_rfl, Eq.trans (b := .int .i64 ((k : Int) + 1)) (by kernel_rfl) (by go_num), trivial⟩, by omega, HGZ.out, HSP2.out, HKZ.out⟩, ?_⟩
      show n - (intOf (Value.int .i64 ((k : Int) + 1))).toNat < n - (intOf (Value.int .i64 (k : Int))).toNat
      simp [intOf]
      omega
  · have i0 : ¬ (k : Int) < (n : Int) := by omega
    go_wp2_with fail
    exact ⟨rfl, _, rfl, by kernel_rfl, kr⟩
end Go.Proofs.Qxb6500653a
