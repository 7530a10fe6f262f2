/-
  'codeclaw.DecimalParserRefuses' (function 5): the walk.
-/
import Derived.Test.Qxb6500664aBack
import Derived.Deep.DeepCutAuto
import Derived.Deep.QuietTactic
import Derived.BigQuiet
import Derived.RegionTactic
import Derived.BigRegion
import Derived.Lib.IndexBytes
namespace Go.Proofs.Qxb6500664a
open Go.RowKit

theorem add_rule (x y z : List UInt8) (hz : z = x ++ y) (hl : x.length + y.length ≤ 1000) (w : World) : (Op.stringOp .add ⟨x.toArray⟩ ⟨y.toArray⟩).run Try.prog w = .ok (.string ⟨z.toArray⟩) w := by
  rw [run_string_add_sum w ⟨x.toArray⟩ ⟨y.toArray⟩ (by show x.length + y.length ≤ _; omega), hz]
  have : (⟨x.toArray⟩ ++ ⟨y.toArray⟩ : ByteArray) = ⟨(x ++ y).toArray⟩ := by
    apply ByteArray.ext
    simp
  rw [this]

theorem ref_rule (w : World) (l : List UInt8) (k : Nat) (hl : l.length ≤ 1000) (hk : 1 ≤ k) (hp : Dec.parse l = (0, k)) :
    Calls Try.prog 21 #[.string ⟨l.toArray⟩, .int .u8 (k : Int)] w fun e w' => e = .returned (.bool true) ∧ Below w.heap.size w w' :=
  refused_any w ⟨l.toArray⟩ k (by show l.length ≤ maxLen; unfold maxLen; omega) hk hp

theorem cell_keep {w w' : World} {p : Addr} {v : Value} (hb : Below w.heap.size w w') (h : w.cell? p = some v) : w'.cell? p = some v := (hb.cell (lt_of_cell h)).trans h
theorem BSl.At.below {s : BSl} {w w' : World} (hb : Below w.heap.size w w') (h : s.At w) : s.At w' :=
  ⟨h.le, h.max, fun h0 => let ⟨b, off, ha, hc⟩ := h.at_ h0; ⟨b, off, ha, fun j hj => cell_keep hb (hc j hj)⟩⟩
theorem FieldsAt.below {w w' : World} {fa : Option Addr} {fn fcap : Nat} {F : Nat → FD} (hb : Below w.heap.size w w') (h : FieldsAt w fa fn fcap F) : FieldsAt w' fa fn fcap F :=
  ⟨h.le, h.max, fun h0 => let ⟨b, off, ha, hc⟩ := h.at_ h0; ⟨b, off, ha, fun j hj => let ⟨c1, c2, c3, c4⟩ := hc j hj; ⟨cell_keep hb c1, cell_keep hb c2, cell_keep hb c3, c4.below hb⟩⟩⟩
theorem PairsAt.below {w w' : World} {fa : Option Addr} {fn fcap : Nat} {F : Nat → PD} (hb : Below w.heap.size w w') (h : PairsAt w fa fn fcap F) : PairsAt w' fa fn fcap F :=
  ⟨h.le, h.max, fun h0 => let ⟨b, off, ha, hc⟩ := h.at_ h0; ⟨b, off, ha, fun j hj => let ⟨c1, c2, c3, c4⟩ := hc j hj; ⟨cell_keep hb c1, cell_keep hb c2, c3.below hb, c4.below hb⟩⟩⟩
theorem OpAt.below {w w' : World} {b o : Nat} {d : OD} (hb : Below w.heap.size w w') (h : OpAt w b o d) : OpAt w' b o d :=
  ⟨cell_keep hb h.c0, cell_keep hb h.c1, cell_keep hb h.c2, cell_keep hb h.c3, cell_keep hb h.c4, cell_keep hb h.c5, cell_keep hb h.c6, cell_keep hb h.c7, h.data.below hb, h.key.below hb, h.fs.below hb, h.ps.below hb⟩
theorem ScriptAt.below {w w' : World} {a : Option Addr} {n cap : Nat} {D : Nat → OD} (hb : Below w.heap.size w w') (h : ScriptAt w a n cap D) : ScriptAt w' a n cap D :=
  ⟨h.le, h.max, fun h0 => let ⟨b, off, ha, hc⟩ := h.at_ h0; ⟨b, off, ha, fun j hj => (hc j hj).below hb⟩⟩

theorem text_neg (v : Int) (h : v < 0) : Dec.text v = 45 :: Dec.mg v := by unfold Dec.text Dec.mg; rw [if_pos h]

theorem str_ext {s : ByteArray} {l : List UInt8} (h : s.data.toList = l) : s = ⟨l.toArray⟩ := by
  apply ByteArray.ext
  rw [← h]

/-- 'text[1:]' -/
theorem slice_tail (T M : List UInt8) (h : T = 45 :: M) (w : World) : (Instr.slice 9 (.string ⟨T.toArray⟩) (some (.int .i64 1)) none none).run Try.prog w = .ok (.string ⟨M.toArray⟩) w := by
  subst h
  rw [run_slice_string_l w 9 ⟨(45 :: M).toArray⟩ Try.underlying9 .i64 1 (by omega) (by show (1 : Int) ≤ (((45 :: M).length : Nat) : Int); rw [List.length_cons]; omega)]
  show Result.ok (Value.string (ByteArray.extract ⟨(45 :: M).toArray⟩ 1 (ByteArray.size ⟨(45 :: M).toArray⟩))) w = _
  rw [str_ext (Lib.extract_to_end ⟨(45 :: M).toArray⟩ 1)]
  rfl
/-- 'digits[1:]' -/
theorem slice_drop (T : List UInt8) (h : 1 ≤ T.length) (w : World) : (Instr.slice 9 (.string ⟨T.toArray⟩) (some (.int .i64 1)) none none).run Try.prog w = .ok (.string ⟨(T.drop 1).toArray⟩) w := by
  rw [run_slice_string_l w 9 ⟨T.toArray⟩ Try.underlying9 .i64 1 (by omega) (by show (1 : Int) ≤ ((T.length : Nat) : Int); omega)]
  show Result.ok (Value.string (ByteArray.extract ⟨T.toArray⟩ 1 (ByteArray.size ⟨T.toArray⟩))) w = _
  rw [str_ext (Lib.extract_to_end ⟨T.toArray⟩ 1)]
/-- 'digits[:1]' -/
theorem slice_take (T : List UInt8) (h : 1 ≤ T.length) (w : World) : (Instr.slice 9 (.string ⟨T.toArray⟩) none (some (.int .i64 1)) none).run Try.prog w = .ok (.string ⟨(T.take 1).toArray⟩) w := by
  rw [run_slice_string_h w 9 ⟨T.toArray⟩ Try.underlying9 .i64 1 (by omega) (by show (1 : Int) ≤ ((T.length : Nat) : Int); omega)]
  rw [str_ext (Lib.extract_data ⟨T.toArray⟩ 0 _)]
  rfl

/-- a list of strings in a new block -/
theorem strs_cells (W : World) (ls : List (List UInt8)) (C : Array Value) (hC : C = (ls.map str).toArray) (j : Nat) (hj : j < ls.length) :
    (W.alloc (.cells C 9)).cell? ⟨W.heap.size, j, none⟩ = some (.string ⟨(ls[j]).toArray⟩) := by
  subst hC
  rw [World.cell?_alloc_at (hn := rfl)]
  simp [List.getElem?_eq_getElem hj, str]

/-- what is used of v's text, its sign and its digits -/
structure Spoilt (v : Int) (T S M : List UInt8) : Prop where
  lT : T.length ≤ 20
  lS : S.length ≤ 1
  lM : M.length ≤ 20
  lM1 : 1 ≤ M.length
  lTS : T.length = S.length + M.length
  zero : Dec.parse (S ++ 48 :: M) = (0, 12)
  plus : Dec.parse (43 :: T) = (0, 10)
  minus2 : Dec.parse (45 :: 45 :: M) = (0, 10)
  behind1 : Dec.parse (T ++ [45]) = (0, 10)
  behind2 : Dec.parse (T ++ [43]) = (0, 10)
  within : Dec.parse (S ++ (M.take 1 ++ 45 :: M.drop 1)) = (0, 10)
  nought : v = 0 → Dec.parse (45 :: T) = (0, 10)
  long : v ≠ 0 → ∀ k, M.length + k = 20 → Dec.parse (T ++ List.replicate k 48) = (0, 13)
  blank1 : Dec.parse (T ++ [32]) = (0, 11)
  blank2 : Dec.parse (32 :: T) = (0, 11)

theorem spoilt (v : Int) (h1 : -9223372036854775808 ≤ v) (h2 : v ≤ 9223372036854775807) : Spoilt v (Dec.text v) (Dec.sgn v) (Dec.mg v) := by
  have hl := Dec.text_len v h1 h2
  have e := congrArg List.length (Dec.text_eq v)
  rw [List.length_append] at e
  obtain ⟨d, q, em, _, _⟩ := Dec.mg_cons v
  have hm : 1 ≤ (Dec.mg v).length := by rw [em]; simp
  refine ⟨hl.2, ?_, by omega, hm, e, Dec.refuse_zero v, Dec.refuse_plus v, Dec.refuse_minus2 _, Dec.refuse_behind v 45 10 (by decide) (fun _ _ _ => Dec.scan_minus _ _ _ _), Dec.refuse_behind v 43 10 (by decide) (fun _ _ _ => Dec.scan_plus _ _ _ _),
    Dec.refuse_within v, ?_, fun hv k hk => Dec.refuse_long v hv k h1 h2 hk, Dec.refuse_behind v 32 11 (by decide) (fun _ _ _ => Dec.scan_blank _ _ _ _), Dec.refuse_blank _⟩
  · unfold Dec.sgn; split <;> simp
  · rintro rfl; decide +kernel

/-- a string's length, for a measure -/
def strLen : Value → Nat
  | .string s => s.size
  | _ => 0

set_option maxHeartbeats 1000000 in
set_option maxRecDepth 100000 in
theorem refuses_walk (w : World) (a : Option Addr) (n cap : Nat) (D : Nat → OD) (h : ScriptAt w a n cap D) :
    Calls Try.prog 5 #[.slice a n cap] w fun e w' => e = .returned (.bool true) ∧ Below w.heap.size w w' := by
  go_enter Try.func5, Try.ntmps5
  go_wp2_with fail
  refine (small_any w a n cap D h).mono ?_
  rintro e w1 ⟨r, rfl, rfl, hr⟩
  cases r with
  | false =>
    go_wp2_with fail
    go_ret
    exact ⟨rfl, Below.refl _ _⟩
  | true =>
    have hs := hr rfl
    clear hr
    go_wp2_with fail
    refine (ref_rule _ [] 9 (by decide) (by decide) (by decide +kernel)).mono ?_
    rintro e x1 ⟨rfl, g1⟩
    go_wp2_with fail
    refine (ref_rule _ [45] 10 (by decide) (by decide) (by decide +kernel)).mono ?_
    rintro e x2 ⟨rfl, g2⟩
    go_wp2_with fail
    refine (ref_rule _ [43] 10 (by decide) (by decide) (by decide +kernel)).mono ?_
    rintro e x3 ⟨rfl, g3⟩
    have hb0 := below_step (below_step g1 g2) g3
    clear g1 g2 g3
    go_wp2_with fail
    refine (numbers_any x3 a n cap D (h.below hb0) hs).mono ?_
    rintro e w2 ⟨ao, cp, zs, rfl, hzl, hzr, hb2, hzc⟩
    have hb2' := below_step hb0 hb2
    clear hb0 hb2
    go_wp2_with fail
    go_loopw [27] (fun i wr => ∃ k : Nat, k ≤ zs.length ∧ i = .int .i64 (k : Int) ∧ Below w2.heap.size w2 wr) (fun i _ => zs.length - (intOf i).toNat)
    case atStart => exact ⟨0, by omega, rfl, Below.refl _ _⟩
    case round =>
      obtain ⟨k, hk, rfl, hbr⟩ := hrel
      by_cases hlt : k < zs.length
      · obtain ⟨g, rfl, hg1, hg2, hgc⟩ := hzc (by omega)
        have hck := (hbr.cell (p := ⟨g, k, none⟩) hg2).trans (hgc k hlt)
        have hv := hzr _ (List.getElem_mem hlt)
        obtain ⟨hv1, hv2⟩ := hv
        clear hgc hzc hzr
        generalize zs[k] = v at *
        go_wp2_with fail
        refine (format_txt _ v hv1 hv2).mono ?_
        rintro e w3 ⟨rfl, hb3⟩
        go_upto_if 35 with fail
        go_cut [6, 7] (fun s d wx => s = .string ⟨(Dec.sgn v).toArray⟩ ∧ d = .string ⟨(Dec.mg v).toArray⟩ ∧ Below w2.heap.size w2 wx)
        case first =>
          have hb4 := below_step hbr hb3
          by_cases hneg : v < 0
          · have hsl := fun wx => slice_tail (Dec.text v) (Dec.mg v) (text_neg v hneg) wx
            have HS : Hid (Dec.sgn v = [45]) := by show Dec.sgn v = [45]; unfold Dec.sgn; rw [if_pos hneg]
            go_wp2_with fail
            go_quiet (fail)
            go_wp2_with fail
            go_meet
            case rel => exact ⟨by rw [HS.out], rfl, below_drewN hb4 _⟩
          · have HS : Hid (Dec.sgn v = []) := by show Dec.sgn v = []; unfold Dec.sgn; rw [if_neg hneg]
            have HT : Hid (Dec.text v = Dec.mg v) := by show Dec.text v = Dec.mg v; rw [Dec.text_eq, HS.out]; rfl
            go_wp2_with fail
            go_meet
            case rel => exact ⟨by rw [HS.out], by rw [HT.out], hb4⟩
        case rest =>
          obtain ⟨rfl, rfl, hbw⟩ := hcut
          have hsp := spoilt v hv1 hv2
          generalize Dec.text v = T at *
          generalize Dec.sgn v = S at *
          generalize Dec.mg v = M at *
          have lT := hsp.lT
          have lS := hsp.lS
          have lM := hsp.lM
          have lM1 := hsp.lM1
          have HSP : Hid (Spoilt v T S M) := hsp
          clear hsp hck hb3
          obtain ⟨Z1, hZ1⟩ : ∃ Z, Z = S ++ [48] := ⟨_, rfl⟩
          obtain ⟨Z2, hZ2⟩ : ∃ Z, Z = Z1 ++ M := ⟨_, rfl⟩
          have lZ1 : Z1.length ≤ 2 := by rw [hZ1]; simp; omega
          have lZ2 : Z2.length ≤ 22 := by rw [hZ2]; simp; omega
          have z1 := add_rule S [48] Z1 hZ1 (by simp; omega)
          have z2 := add_rule Z1 M Z2 hZ2 (by omega)
          have HZ : Hid (Dec.parse Z2 = (0, 12)) := by show Dec.parse Z2 = _; rw [hZ2, hZ1, List.append_assoc]; exact HSP.out.zero
          clear hZ1 hZ2
          go_wp2_with fail
          refine (ref_rule _ Z2 12 (by omega) (by decide) HZ.out).mono ?_
          rintro e w5 ⟨rfl, hb5⟩
          clear z1 z2
          have hb6 := below_step hbw hb5
          clear hb5 hbw
          obtain ⟨P1, hP1⟩ : ∃ Z, Z = [43] ++ T := ⟨_, rfl⟩
          obtain ⟨P2, hP2⟩ : ∃ Z, Z = [45, 45] ++ M := ⟨_, rfl⟩
          obtain ⟨P3, hP3⟩ : ∃ Z, Z = T ++ [45] := ⟨_, rfl⟩
          obtain ⟨P4, hP4⟩ : ∃ Z, Z = T ++ [43] := ⟨_, rfl⟩
          obtain ⟨M1, hM1⟩ : ∃ Z, Z = M.take 1 := ⟨_, rfl⟩
          obtain ⟨M2, hM2⟩ : ∃ Z, Z = M.drop 1 := ⟨_, rfl⟩
          obtain ⟨C1, hC1⟩ : ∃ Z, Z = S ++ M1 := ⟨_, rfl⟩
          obtain ⟨C2, hC2⟩ : ∃ Z, Z = C1 ++ [45] := ⟨_, rfl⟩
          obtain ⟨C3, hC3⟩ : ∃ Z, Z = C2 ++ M2 := ⟨_, rfl⟩
          have lM1' : M1.length ≤ 20 := by rw [hM1]; simp; omega
          have lM2' : M2.length ≤ 20 := by rw [hM2]; simp; omega
          have lC1 : C1.length ≤ 21 := by rw [hC1]; simp; omega
          have lC2 : C2.length ≤ 22 := by rw [hC2]; simp; omega
          have p1 := add_rule [43] T P1 hP1 (by simp; omega)
          have p2 := add_rule [45, 45] M P2 hP2 (by simp; omega)
          have p3 := add_rule T [45] P3 hP3 (by simp; omega)
          have p4 := add_rule T [43] P4 hP4 (by simp; omega)
          have c1 := add_rule S M1 C1 hC1 (by omega)
          have c2 := add_rule C1 [45] C2 hC2 (by simp; omega)
          have c3 := add_rule C2 M2 C3 hC3 (by omega)
          have s1 := slice_take M lM1
          have s2 := slice_drop M lM1
          rw [← hM1] at s1
          rw [← hM2] at s2
          have HL : Hid (∀ l ∈ [P1, P2, P3, P4, C3], l.length ≤ 100 ∧ Dec.parse l = (0, 10)) := by
            intro l hl
            simp only [List.mem_cons, List.not_mem_nil, or_false] at hl
            rcases hl with rfl | rfl | rfl | rfl | rfl
            · rw [hP1]; exact ⟨by simp; omega, HSP.out.plus⟩
            · rw [hP2]; exact ⟨by simp; omega, HSP.out.minus2⟩
            · rw [hP3]; exact ⟨by simp; omega, HSP.out.behind1⟩
            · rw [hP4]; exact ⟨by simp; omega, HSP.out.behind2⟩
            · refine ⟨by rw [hC3]; simp; omega, ?_⟩
              rw [hC3, hC2, hC1, hM1, hM2, List.append_assoc, List.append_assoc]; exact HSP.out.within
          clear hP1 hP2 hP3 hP4 hM1 hM2 hC1 hC2 hC3 lM1' lM2' lC1 lC2
          go_wp2_with fail
          go_region
          clear p1 p2 p3 p4 c1 c2 c3 s1 s2
          obtain ⟨Bs, hBs⟩ : ∃ Bs, Bs = [P1, P2, P3, P4, C3] := ⟨_, rfl⟩
          have HCS : Hid (∀ j (hj : j < Bs.length), (w5.alloc (.cells #[.string ⟨P1.toArray⟩, .string ⟨P2.toArray⟩, .string ⟨P3.toArray⟩, .string ⟨P4.toArray⟩, .string ⟨C3.toArray⟩] 9)).cell? ⟨w5.heap.size, j, none⟩ = some (.string ⟨(Bs[j]).toArray⟩)) := fun j hj => strs_cells w5 Bs _ (by rw [hBs]; rfl) j hj
          have HL2 : Hid (∀ l ∈ Bs, l.length ≤ 100 ∧ Dec.parse l = (0, 10)) := by show ∀ l ∈ Bs, _; rw [hBs]; exact HL.out
          have HB5 : Hid (Bs.length = 5) := by show Bs.length = 5; rw [hBs]; rfl
          clear hBs HL
          go_wp2_with fail
          obtain ⟨wo, hwo⟩ : ∃ wo : World, wo = wr := ⟨_, rfl⟩
          clear hwo
          go_loopw [62] (fun i wr => ∃ j : Nat, j ≤ 5 ∧ i = .int .i64 (j : Int) ∧ Below w2.heap.size w2 wr ∧ w5.heap.size < wr.heap.size ∧ Hid (∀ j (hj : j < Bs.length), wr.cell? ⟨w5.heap.size, j, none⟩ = some (.string ⟨(Bs[j]).toArray⟩))) (fun i _ => 5 - (intOf i).toNat)
          case atStart => exact ⟨0, by omega, rfl, (hb6.alloc hb6.size _).drew, by simp, HCS.out⟩
          case round =>
            obtain ⟨j, hj, rfl, hbj, hszj, hcj⟩ := hrel
            by_cases hj5 : j < 5
            · have hjl : j < Bs.length := by rw [HB5.out]; exact hj5
              have hcjj := hcj.out j hjl
              have hlj := HL2.out _ (List.getElem_mem hjl)
              obtain ⟨hlj1, hlj2⟩ := hlj
              have HP : Hid _ := hlj2
              clear hlj2
              generalize Bs[j] = B at *
              go_wp2_with fail
              refine (ref_rule _ B 10 (by omega) (by decide) HP.out).mono ?_
              rintro e w6 ⟨rfl, hb7⟩
              go_wp2_with fail
              go_roundw
              case rel => exact ⟨j + 1, by omega, by go_num, below_step hbj hb7, Nat.lt_of_lt_of_le hszj hb7.size, fun i hi => (hb7.cell (p := ⟨w5.heap.size, i, none⟩) hszj).trans (hcj.out i hi)⟩
              case measure => simp [intOf]; omega
            · clear hcj HCS HL2 HB5
              have hd5 : decide ((j : Int) < 5) = false := by simp; omega
              obtain ⟨F1, hF1⟩ : ∃ Z, Z = T ++ [32] := ⟨_, rfl⟩
              obtain ⟨F2, hF2⟩ : ∃ Z, Z = [32] ++ T := ⟨_, rfl⟩
              have lF1 : F1.length ≤ 21 := by rw [hF1]; simp; omega
              have lF2 : F2.length ≤ 21 := by rw [hF2]; simp; omega
              have f1 := add_rule T [32] F1 hF1 (by simp; omega)
              have f2 := add_rule [32] T F2 hF2 (by simp; omega)
              have HF1 : Hid (Dec.parse F1 = (0, 11)) := by show Dec.parse F1 = _; rw [hF1]; exact HSP.out.blank1
              have HF2 : Hid (Dec.parse F2 = (0, 11)) := by show Dec.parse F2 = _; rw [hF2]; exact HSP.out.blank2
              clear hF1 hF2
              by_cases hv0 : v = 0
              · have e1 : (v == 0) = true := by rw [beq_iff_eq]; exact hv0
                have e2 : (v != 0) = false := by rw [bne_eq_false_iff_eq]; exact hv0
                obtain ⟨E1, hE1⟩ : ∃ Z, Z = [45] ++ T := ⟨_, rfl⟩
                have lE1 : E1.length ≤ 21 := by rw [hE1]; simp; omega
                have q1 := add_rule [45] T E1 hE1 (by simp; omega)
                have HE1 : Hid (Dec.parse E1 = (0, 10)) := by show Dec.parse E1 = _; rw [hE1]; exact HSP.out.nought hv0
                clear hE1 hv0
                go_wp2_with fail
                refine (ref_rule _ E1 10 (by omega) (by decide) HE1.out).mono ?_
                rintro e w7 ⟨rfl, hb8⟩
                go_wp2_with fail
                refine (ref_rule _ F1 11 (by omega) (by decide) HF1.out).mono ?_
                rintro e w8 ⟨rfl, hb9⟩
                go_wp2_with fail
                refine (ref_rule _ F2 11 (by omega) (by decide) HF2.out).mono ?_
                rintro e w9 ⟨rfl, hb10⟩
                go_wp2_with fail
                go_roundw
                case rel => exact ⟨k + 1, by omega, by go_num, below_step (below_step (below_step hbj hb8) hb9) hb10⟩
                case measure => simp [intOf]; omega
              · have e1 : (v == 0) = false := by rw [beq_eq_false_iff_ne]; exact hv0
                have e2 : (v != 0) = true := by rw [bne_iff_ne]; exact hv0
                have HLG : Hid (∀ j, M.length + j = 20 → Dec.parse (T ++ List.replicate j 48) = (0, 13)) := fun j hj => HSP.out.long hv0 j hj
                have HTS : Hid (T.length = S.length + M.length) := HSP.out.lTS
                clear hv0
                go_wp2_with fail
                go_loop [10] (fun lg => ∃ (q : Nat) (L : List UInt8), lg = .string ⟨L.toArray⟩ ∧ M.length + q ≤ 20 ∧ L.length ≤ 21 ∧ Hid (L = T ++ List.replicate q 48)) (fun lg => 100 - strLen lg)
                case atStart => exact ⟨0, T, rfl, by omega, by omega, by show T = _; simp⟩
                case round =>
                  obtain ⟨q, L, rfl, hq, hL, HQ⟩ := hrel
                  have hlen : L.length = S.length + M.length + q := by rw [HQ.out, List.length_append, List.length_replicate, HTS.out]
                  by_cases hq2 : M.length + q < 20
                  · have t1 : (L.length : Int) - (S.length : Int) < 20 := by omega
                    obtain ⟨L2, hL2⟩ : ∃ Z, Z = L ++ [48] := ⟨_, rfl⟩
                    have l1 := add_rule L [48] L2 hL2 (by simp; omega)
                    have lL2 : L2.length ≤ 21 := by rw [hL2]; simp; omega
                    have HQ2 : Hid (L2 = T ++ List.replicate (q + 1) 48) := by show L2 = _; rw [hL2, HQ.out, List.append_assoc, List.replicate_succ']
                    have HM : Hid (100 - strLen (.string ⟨L2.toArray⟩) < 100 - strLen (.string ⟨L.toArray⟩)) := by show 100 - L2.length < 100 - L.length; rw [hL2]; simp; omega
                    clear hL2 hlen
                    go_wp2_with fail
                    go_round
                    case rel => exact ⟨q + 1, L2, rfl, by omega, lL2, HQ2.out⟩
                    case measure => exact HM.out
                  · have t1 : ¬ ((L.length : Int) - (S.length : Int) < 20) := by omega
                    have HP : Hid (Dec.parse L = (0, 13)) := by show Dec.parse L = _; rw [HQ.out]; exact HLG.out q (by omega)
                    clear hlen
                    go_wp2_with fail
                    refine (ref_rule _ L 13 (by omega) (by decide) HP.out).mono ?_
                    rintro e w7 ⟨rfl, hb8⟩
                    go_wp2_with fail
                    refine (ref_rule _ F1 11 (by omega) (by decide) HF1.out).mono ?_
                    rintro e w8 ⟨rfl, hb9⟩
                    go_wp2_with fail
                    refine (ref_rule _ F2 11 (by omega) (by decide) HF2.out).mono ?_
                    rintro e w9 ⟨rfl, hb10⟩
                    go_wp2_with fail
                    go_roundw
                    case rel => exact ⟨k + 1, by omega, by go_num, below_step (below_step (below_step hbj hb8) hb9) hb10⟩
                    case measure => simp [intOf]; omega
      · go_wp2_with fail
        go_ret
        exact ⟨rfl, hb2'.trans (hbr.mono hb2'.size)⟩
end Go.Proofs.Qxb6500664a
