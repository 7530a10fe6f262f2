/-
  'codec.Sort[codeclaw.item]' (function 8).
-/
import Derived.Test.Qxb6500664aSortSt
namespace Go.Proofs.Qxb6500664a
open Go.RowKit

theorem Try.info39 : (Try.prog.info? 39).map (fun i => (i.zero, i.size, i.bytes)) = some (some (.agg #[.slice none 0 0, .int .i64 0]), 2, 32) := by kernel_rfl
theorem ev2_one (K : Nat → BSl) (t : Nat) : ∀ v ∈ ev2 K t, v.oneCell' = true := by
  intro v hv
  simp [ev2] at hv
  rcases hv with rfl | rfl <;> rfl

theorem make_items (n : Nat) (hn : n ≤ 65536) (w : World) : (Instr.makeSlice 34 (.int .i64 (n : Int)) (.int .i64 (n : Int))).run Try.prog w = .ok (.slice (some ⟨w.heap.size, 0, none⟩) n n) (w.alloc (.cells (madeCells #[.slice none 0 0, .int .i64 0] (n * 2)) 39)) := by
  obtain ⟨i0, hi, hz0, hz1, hz2⟩ := info_parts Try.info39
  have := run_make (P := Try.prog) w 34 39 i0 _ Try.underlying34 hi hz0 .i64 .i64 (n : Int) (n : Int) (by omega) (Int.le_refl _) (by rw [hz2]; omega) (by omega)
  rw [hz1, Int.toNat_natCast] at this
  exact this

theorem ins_at (W0 w : World) (K : Nat → BSl) (g P m cap : Nat) (pre seg post : List Nat) (hP : pre.length = P) (hm : seg.length = m) (hinc : seg.Pairwise (· < ·)) (hK : ∀ t ∈ seg, (K t).At W0) (h1 : 1 ≤ m) (hlen : m ≤ 65536)
    (hB0 : W0.heap.size ≤ g) (hbel : Below W0.heap.size W0 w) (hrow : RowAt 39 (ev2 K) w g (pre ++ (seg ++ post))) :
    Calls Try.prog 22 #[.slice (some ⟨g, P * 2, none⟩) m cap, .func (.func 9) #[] #[]] w (InsPost 39 (ev2 K) K w g pre seg post) := by
  subst hm
  exact ins_items W0 w K g P (P * 2) cap pre seg post hP rfl hinc hK h1 hlen hB0 hbel hrow

theorem merge_at (W0 w wp wr : World) (K : Nat → BSl) (p0 p A : List Nat) (n g d wd Lo c sb db : Nat) (ip : Bool) (hps : PassSt 39 (ev2 K) 2 K W0 w wp p0 p n g d wd ip sb db) (h : InnSt 39 (ev2 K) 2 K W0 w wr p0 p A n g wd Lo c sb db) (hp0 : p0.length = n) (hinc : p0.Pairwise (· < ·)) (hK : ∀ t ∈ p0, (K t).At W0) (hn : n ≤ 65536) (hlt : Lo < n)
    (lx ly nz ca cb cd : Nat) (Ab : Option Addr) (hlx : lx = min wd (n - Lo)) (hly : ly = min wd (n - (Lo + wd))) (hnz : nz = lx + ly) (hAb : 0 < ly → Ab = some ⟨sb, (Lo + wd) * 2, none⟩) :
    Calls Try.prog 23 #[.slice (some ⟨db, Lo * 2, none⟩) nz cd, .slice (some ⟨sb, Lo * 2, none⟩) lx ca, .slice Ab ly cb, .func (.func 9) #[] #[]] wr.drew
      (fun e w' => e = .returned (.tuple #[]) ∧ ∃ A', InnSt 39 (ev2 K) 2 K W0 w w' p0 p A' n g wd (Lo + 2 * wd) (c + 1) sb db) := by
  obtain ⟨q1, q2, q3, q4, q5, q6, q7, q8, q9⟩ := hps.next hp0 hinc h.lo hlt hK
  obtain ⟨Z, z1, z2⟩ := h.dst
  have hAl : A.length = Lo := by have := h.la; omega
  have hx : lx = (Ord.sg p Lo wd).length := by omega
  have hy : ly = (Ord.sg p (Lo + wd) wd).length := by omega
  subst hx hy
  refine (merge_items W0 wr.drew K sb db Lo (Lo + (Ord.sg p Lo wd).length) Lo (Lo * 2) _ (Lo * 2) ca cb cd Ab (p.take Lo) (Ord.sg p Lo wd) (Ord.sg p (Lo + wd) wd) (p.drop (Lo + wd + wd)) A Z nz ((n - Lo - nz) * 2) q9 (by rw [q9]) hAl rfl rfl rfl
    (fun h0 => by rw [hAb h0, show (Ord.sg p Lo wd).length = wd by omega]) q1 q2 q3 hnz (by omega) (by rw [z2, hAl]; omega) q4 q5 hps.low hps.ne (env_drew h.env) (h.src.drew.cast q8) z1.drew).mono ?_
  rintro e w1 ⟨rfl, o, o1, o2, o3, o4⟩
  exact ⟨rfl, A ++ o, InnSt.step hps h hp0 hinc hlt z2 hnz o1 o2 o3 rfl (grown_of_drew o4)⟩

set_option maxHeartbeats 8000000 in
theorem sort_items (W0 w : World) (K : Nat → BSl) (g n : Nat) (p0 : List Nat) (hp : p0.length = n) (hinc : p0.Pairwise (· < ·)) (hK : ∀ t ∈ p0, (K t).At W0) (hn : n ≤ 65536)
    (hB0 : W0.heap.size ≤ g) (hbel : Below W0.heap.size W0 w) (hrow : RowAt 39 (ev2 K) w g p0) :
    Calls Try.prog 8 #[.slice (some ⟨g, 0, none⟩) n n, .func (.func 9) #[] #[]] w (SortPost 39 (ev2 K) K w g p0) := by
  have HP : Hid (p0.length = n) := hp
  clear hp
  go_enter Try.func8, Try.ntmps8
  go_wp2
  go_loopw [5] (fun i wr => ∃ (L c : Nat) (A : List Nat), i = .int .i64 (L : Int) ∧ L ≤ 65544 ∧ Hid (L = c * 8) ∧ Hid (A.length = min L n) ∧ Ord.Runs (keysOf K) p0 A 8 ∧ RowAt 39 (ev2 K) wr g (A ++ p0.drop L) ∧ w.grownBy wr (some g)) (fun i _ => n + 8 - (intOf i).toNat)
  case atStart => exact ⟨0, 0, [], rfl, by omega, rfl, by show _ = min 0 n; simp, Ord.Runs.nil _ _ _, hrow.cast (by simp), grown_refl _ _⟩
  case round =>
    obtain ⟨L, c, A, rfl, hL, HL, HA, hruns, hr, hgr⟩ := hrel
    have hbW := env_grown hbel hB0 hgr
    by_cases hlt : L < n
    · have hAl : A.length = L := by have := HA.out; omega
      obtain ⟨H, hH⟩ : ∃ H, H = min (L + 8) n := ⟨_, rfl⟩
      have hs := Ord.sg_len p0 L 8
      rw [HP.out] at hs
      have hseg : (Ord.sg p0 L 8).length = H - L := by omega
      have hsub : ∀ t ∈ Ord.sg p0 L 8, (K t).At W0 := fun t ht => hK t (List.drop_subset _ _ (List.take_subset _ _ ht))
      have hinc2 : (Ord.sg p0 L 8).Pairwise (· < ·) := (hinc.drop).take
      have HR : Hid (RowAt 39 (ev2 K) wr g (A ++ (Ord.sg p0 L 8 ++ p0.drop (L + 8)))) := hr.cast (by rw [← Ord.sg_split])
      have HSEG : Hid ((Ord.sg p0 L 8).length = H - L) := hseg
      have HAL : Hid (A.length = L) := hAl
      have b1 : H ≤ n := by omega
      have b2 : L < H := by omega
      have nL : ¬ n = L := by omega
      have HH : Hid (H = min (L + 8) n) := hH
      clear hs hseg hAl hr
      by_cases h8 : L + 8 ≤ n
      · have hH8 : Hid (H = L + 8) := by show H = _; omega
        go_wp2_with fail
        refine (ins_at W0 wr K g L 8 (n - L) A (Ord.sg p0 L 8) (p0.drop (L + 8)) HAL.out (by have := HSEG.out; have := hH8.out; omega) hinc2 hsub (by omega) (by omega) hB0 hbW HR.out).mono ?_
        rintro e w1 ⟨rfl, seg', hperm, hsrt, hr1, hg1⟩
        have HN1 : Hid (L + 8 = (c + 1) * 8) := by show L + 8 = _; have := HL.out; omega
        have HN2 : Hid ((A ++ seg').length = min (L + 8) n) := by show _ = _; rw [List.length_append, hperm.length_eq, HSEG.out, HAL.out, HH.out]; omega
        have HN3 : Hid (Ord.Runs (keysOf K) p0 (A ++ seg') 8) := hruns.snoc (c := c) _ (by rw [HAL.out, HL.out]) hsrt (by rw [← HL.out]; exact hperm)
        have HN4 : Hid (RowAt 39 (ev2 K) w1 g ((A ++ seg') ++ p0.drop (L + 8))) := hr1.cast (by simp)
        have HN5 : Hid (w.grownBy w1 (some g)) := grown_trans hgr hg1
        clear hperm hsrt hr1 hg1 hruns
        go_wp2_with fail
        go_roundw
        case rel => exact ⟨L + 8, c + 1, A ++ seg', by go_num, by omega, HN1.out, HN2.out, HN3.out, HN4.out, HN5.out⟩
        case measure => simp [intOf]; omega
      · have hH8 : Hid (H = n) := by show H = _; omega
        go_wp2_with fail
        refine (ins_at W0 wr K g L (n - L) (n - L) A (Ord.sg p0 L 8) (p0.drop (L + 8)) HAL.out (by have := HSEG.out; have := hH8.out; omega) hinc2 hsub (by omega) (by omega) hB0 hbW HR.out).mono ?_
        rintro e w1 ⟨rfl, seg', hperm, hsrt, hr1, hg1⟩
        have HN1 : Hid (L + 8 = (c + 1) * 8) := by show L + 8 = _; have := HL.out; omega
        have HN2 : Hid ((A ++ seg').length = min (L + 8) n) := by show _ = _; rw [List.length_append, hperm.length_eq, HSEG.out, HAL.out, HH.out]; omega
        have HN3 : Hid (Ord.Runs (keysOf K) p0 (A ++ seg') 8) := hruns.snoc (c := c) _ (by rw [HAL.out, HL.out]) hsrt (by rw [← HL.out]; exact hperm)
        have HN4 : Hid (RowAt 39 (ev2 K) w1 g ((A ++ seg') ++ p0.drop (L + 8))) := hr1.cast (by simp)
        have HN5 : Hid (w.grownBy w1 (some g)) := grown_trans hgr hg1
        clear hperm hsrt hr1 hg1 hruns
        go_wp2_with fail
        go_roundw
        case rel => exact ⟨L + 8, c + 1, A ++ seg', by go_num, by omega, HN1.out, HN2.out, HN3.out, HN4.out, HN5.out⟩
        case measure => simp [intOf]; omega
    · have hAn : A.length = n := by have := HA.out; omega
      have hr2 : RowAt 39 (ev2 K) wr g A := hr.cast (by rw [List.drop_of_length_le (by rw [HP.out]; omega), List.append_nil])
      have HRUN : Hid (Ord.Runs (keysOf K) p0 A 8) := hruns
      have HAN : Hid (A.length = n) := hAn
      have HR : Hid (RowAt 39 (ev2 K) wr g A) := hr2
      clear hruns hr hAn hr2 HA HL
      by_cases h8 : n ≤ 8
      · have HF : Hid (SortPost 39 (ev2 K) K w g p0 (.returned (.tuple #[])) wr) := by
          have := HRUN.out.all _ (by rw [HAN.out, HP.out]) (by rw [HAN.out]; exact h8)
          exact ⟨rfl, A, this.2, this.1, HR.out, hgr⟩
        clear hgr
        go_wp2
        go_end0
        exact HF.out
      · have hd8 : decide ((n : Int) ≤ 8) = false := by simp; omega
        have hmk := make_items n hn
        have hdW : Hid (W0.heap.size ≤ wr.heap.size) := hbW.size
        have hdw : Hid (w.heap.size ≤ wr.heap.size) := hgr.size
        have hgd : Hid (g ≠ wr.heap.size) := by have := HR.out.lt; show g ≠ wr.heap.size; omega
        have HR2 : Hid (RowAt 39 (ev2 K) (wr.alloc (.cells (madeCells #[.slice none 0 0, .int .i64 0] (n * 2)) 39)).drew g A) := (HR.out.alloc _).drew
        have HZ2 : Hid (RowPart 39 (ev2 K) (wr.alloc (.cells (madeCells #[.slice none 0 0, .int .i64 0] (n * 2)) 39)).drew wr.heap.size [] (madeCells #[.slice none 0 0, .int .i64 0] (n * 2)).toList) := ⟨by show (wr.heap.push _)[wr.heap.size]? = _; simp⟩
        have HG2 : Hid (w.grownBy (wr.alloc (.cells (madeCells #[.slice none 0 0, .int .i64 0] (n * 2)) 39)).drew (some g)) := grown_drew (grown_alloc hgr _)
        clear HR hgr hbW
        go_wp2
        go_region
        go_wp2
        obtain ⟨d, hd⟩ : ∃ d, d = wr.heap.size := ⟨_, rfl⟩
        have HPS : Hid (PassSt 39 (ev2 K) 2 K W0 w (wr.alloc (.cells (madeCells #[.slice none 0 0, .int .i64 0] (n * 2)) 39)).drew p0 A n g d 8 true g d) :=
          ⟨HRUN.out, HAN.out, HR2.out, ⟨_, by rw [hd]; exact HZ2.out, by simp [size_madeCells]⟩, Or.inl ⟨rfl, rfl, rfl⟩, by rw [hd]; exact hgd.out, HG2.out, env_grown hbel hB0 HG2.out, by rw [hd]; exact hdW.out, Or.inr (by rw [hd]; exact hdw.out)⟩
        have hdW' : Hid (W0.heap.size ≤ d) := by show _ ≤ d; rw [hd]; exact hdW.out
        have hdw' : Hid (w.heap.size ≤ d) := by show _ ≤ d; rw [hd]; exact hdw.out
        clear HR2 HZ2 HG2 hgd hdW hdw HRUN HAN
        rw [← hd]
        clear hd
        go_loopw [6, 7, 8, 9] (fun sv dv iv wv wr => ∃ (wd sb db : Nat) (ip : Bool) (p : List Nat), sv = .slice (some ⟨sb, 0, none⟩) n n ∧ dv = .slice (some ⟨db, 0, none⟩) n n ∧ iv = .bool ip ∧ wv = .int .i64 (wd : Int) ∧ 8 ≤ wd ∧ wd ≤ 131072 ∧ PassSt 39 (ev2 K) 2 K W0 w wr p0 p n g d wd ip sb db) (fun _ _ _ wv _ => 200000 - (intOf wv).toNat)
        case atStart => exact ⟨8, g, d, true, A, rfl, rfl, rfl, rfl, by omega, by omega, HPS.out⟩
        case round =>
          obtain ⟨wd, sb, db, ip, p, rfl, rfl, rfl, rfl, hw8, hwM, hps⟩ := hrel
          by_cases hwn : wd < n
          · have hinn := hps.inn
            go_wp2
            obtain ⟨wo, hwo⟩ : ∃ wo : World, wo = wr := ⟨_, rfl⟩
            have HPS2 : Hid (PassSt 39 (ev2 K) 2 K W0 w wo p0 p n g d wd ip sb db) := by show PassSt 39 (ev2 K) 2 K W0 w wo p0 p n g d wd ip sb db; rw [hwo]; exact hps
            have HIN : Hid (InnSt 39 (ev2 K) 2 K W0 w wr p0 p [] n g wd 0 0 sb db) := hinn
            clear hwo hps hinn
            go_loopw [10] (fun lv wr => ∃ (Lo c : Nat) (A : List Nat), lv = .int .i64 (Lo : Int) ∧ Lo ≤ 400000 ∧ InnSt 39 (ev2 K) 2 K W0 w wr p0 p A n g wd Lo c sb db) (fun lv _ => 1000000 - (intOf lv).toNat)
            case atStart => exact ⟨0, 0, [], rfl, by omega, HIN.out⟩
            case round =>
              obtain ⟨Lo, c, A, rfl, hLo, hin⟩ := hrel
              by_cases hlt : Lo < n
              · have HIN2 : Hid (InnSt 39 (ev2 K) 2 K W0 w wr p0 p A n g wd Lo c sb db) := hin
                clear hin
                have nL : ¬ n = Lo := by omega
                by_cases c1 : Lo + 2 * wd ≤ n
                · have nM : ¬ n = Lo + wd := by omega
                  go_wp2_with fail
                  go_region_with (first | (go_at_call 23; refine (merge_at W0 w wo wr K p0 p A n g d wd Lo c sb db ip HPS2.out HIN2.out HP.out hinc hK hn hlt _ _ _ _ _ _ _ (by omega) (by omega) (by omega) (fun _ => by first | rfl | (congr 2; omega))).mono ?_; rintro e w1 ⟨rfl, A', hin'⟩))
                  all_goals (have HIN3 : Hid (InnSt 39 (ev2 K) 2 K W0 w w1 p0 p A' n g wd (Lo + 2 * wd) (c + 1) sb db) := hin'; clear hin'; go_wp2_with fail; go_roundw; first | exact ⟨Lo + 2 * wd, c + 1, A', by go_num, by omega, HIN3.out⟩ | skip)
                  all_goals (simp [intOf]; omega)
                · by_cases c2 : Lo + wd ≤ n
                  · by_cases nM : n = Lo + wd
                    · have nM2 : (Lo : Int) + (wd : Int) = (n : Int) := by omega
                      clear nM
                      go_wp2_with fail
                      go_region_with (first | (go_at_call 23; refine (merge_at W0 w wo wr K p0 p A n g d wd Lo c sb db ip HPS2.out HIN2.out HP.out hinc hK hn hlt _ _ _ _ _ _ _ (by omega) (by omega) (by omega) (fun h0 => absurd h0 (by omega))).mono ?_; rintro e w1 ⟨rfl, A', hin'⟩))
                      all_goals (have HIN3 : Hid (InnSt 39 (ev2 K) 2 K W0 w w1 p0 p A' n g wd (Lo + 2 * wd) (c + 1) sb db) := hin'; clear hin'; go_wp2_with fail; go_roundw; first | exact ⟨Lo + 2 * wd, c + 1, A', by go_num, by omega, HIN3.out⟩ | skip)
                      all_goals (simp [intOf]; omega)
                    · go_wp2_with fail
                      go_region_with (first | (go_at_call 23; refine (merge_at W0 w wo wr K p0 p A n g d wd Lo c sb db ip HPS2.out HIN2.out HP.out hinc hK hn hlt _ _ _ _ _ _ _ (by omega) (by omega) (by omega) (fun _ => by first | rfl | (congr 2; omega))).mono ?_; rintro e w1 ⟨rfl, A', hin'⟩))
                      all_goals (have HIN3 : Hid (InnSt 39 (ev2 K) 2 K W0 w w1 p0 p A' n g wd (Lo + 2 * wd) (c + 1) sb db) := hin'; clear hin'; go_wp2_with fail; go_roundw; first | exact ⟨Lo + 2 * wd, c + 1, A', by go_num, by omega, HIN3.out⟩ | skip)
                      all_goals (simp [intOf]; omega)
                  · go_wp2_with fail
                    go_region_with (first | (go_at_call 23; refine (merge_at W0 w wo wr K p0 p A n g d wd Lo c sb db ip HPS2.out HIN2.out HP.out hinc hK hn hlt _ _ _ _ _ _ _ (by omega) (by omega) (by omega) (fun h0 => absurd h0 (by omega))).mono ?_; rintro e w1 ⟨rfl, A', hin'⟩))
                    all_goals (have HIN3 : Hid (InnSt 39 (ev2 K) 2 K W0 w w1 p0 p A' n g wd (Lo + 2 * wd) (c + 1) sb db) := hin'; clear hin'; go_wp2_with fail; go_roundw; first | exact ⟨Lo + 2 * wd, c + 1, A', by go_num, by omega, HIN3.out⟩ | skip)
                    all_goals (simp [intOf]; omega)
              · have HN : Hid (PassSt 39 (ev2 K) 2 K W0 w wr p0 A n g d (2 * wd) (!ip) db sb) := hin.swap (ev2_len K) HPS2.out (by omega) hB0 hdW'.out hdw'.out
                clear hin
                go_wp2
                go_roundw
                case rel => exact ⟨2 * wd, db, sb, !ip, A, rfl, rfl, rfl, by go_num, by omega, by omega, HN.out⟩
                case measure => simp [intOf]; omega
          · cases ip with
            | true =>
              have HF : Hid (SortPost 39 (ev2 K) K w g p0 (.returned (.tuple #[])) wr) := hps.done HP.out (by omega)
              clear hps
              go_wp2
              go_end0
              exact HF.out
            | false =>
              have HF : Hid (SortPost 39 (ev2 K) K w g p0 (.returned (.tuple #[])) (wr.setRow g (p.flatMap (ev2 K)).toArray)) := hps.copied HP.out (by omega)
              obtain ⟨cur, HDB, HLN, HSRC, HFIT, HONE⟩ := hps.over (ev2_len K) (ev2_one K)
              obtain ⟨wz, hwz⟩ : ∃ wz : World, wz = wr.setRow g (p.flatMap (ev2 K)).toArray := ⟨_, rfl⟩
              have hcp : (Builtin.copy_ #[34, 34] 3 #[.slice (some ⟨g, 0, none⟩) n n, .slice (some ⟨sb, 0, none⟩) n n]).run Try.prog wr = .ok (.int .i64 (n : Int)) wz := by
                rw [hwz]
                exact run_copy_rows Try.prog wr 34 34 3 39 g sb n n n 2 cur 39 (p.flatMap (ev2 K)) Try.underlying34 (by kernel_rfl) HDB HLN HSRC HFIT HONE
              rw [← hwz] at HF
              clear HDB HLN HSRC HFIT HONE hwz hps
              go_wp2
              go_end0
              exact HF.out
end Go.Proofs.Qxb6500664a
