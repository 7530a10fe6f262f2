/-
  Panes (14).
-/
import Derived.Test.Qxb6500653aRects
import Derived.Test.Qxb6500653aBand
namespace Go.Proofs.Qxb6500653a
open Go.RowKit

/-- a pane -/
structure Pn where
  y0 : Int
  x0 : Int
  y1 : Int
  x1 : Int
  t : Int
  l : Int
  b : Int
  r : Int
def Pn.cells (a : Pn) : List Value := [.int .i64 a.y0, .int .i64 a.x0, .int .i64 a.y1, .int .i64 a.x1, .int .i64 a.t, .int .i64 a.l, .int .i64 a.b, .int .i64 a.r]
def flatP : List Pn → List Value
  | [] => []
  | a :: m => a.cells ++ flatP m
theorem flatP_append (a b : List Pn) : flatP (a ++ b) = flatP a ++ flatP b := by
  induction a with
  | nil => rfl
  | cons x m ih => show x.cells ++ flatP (m ++ b) = _; rw [ih]; exact (List.append_assoc _ _ _).symm
def panePn (R C : Ax) (i k : Nat) : List Pn :=
  if R.bLo i < R.bHi i ∧ C.bLo k < C.bHi k then [⟨R.bLo i, C.bLo k, R.bHi i, C.bHi k, R.ln (R.bLo i), C.ln (C.bLo k), R.ln (R.bHi i - 1), C.ln (C.bHi k - 1)⟩] else []
def innPn (R C : Ax) (i : Nat) : Nat → List Pn
  | 0 => []
  | k + 1 => innPn R C i k ++ panePn R C i k
def accPn (R C : Ax) : Nat → List Pn
  | 0 => []
  | i + 1 => accPn R C i ++ innPn R C i 2
def panesOf (S : Sh) (V : Vw) : List Pn := accPn (rowAx S V 0 0 0) (colAx S V 0 0 0) 2
theorem innPn_len (R C : Ax) (i k : Nat) : (innPn R C i k).length ≤ k := by
  induction k with
  | zero => exact Nat.le_refl _
  | succ k ih =>
    have : (panePn R C i k).length ≤ 1 := by unfold panePn; split <;> simp
    simp only [innPn, List.length_append]
    omega
theorem accPn_len (R C : Ax) (i : Nat) : (accPn R C i).length ≤ i * 2 := by
  induction i with
  | zero => exact Nat.le_refl _
  | succ k ih =>
    have := innPn_len R C k 2
    simp only [accPn, List.length_append]
    omega

def PanesPost (lb sb : Nat) (S : Sh) (V : Vw) (w : World) (e : Ending) (w' : World) : Prop :=
  ∃ v, e = .returned v ∧ w'.ownsRow w.heap.size 58 8 v (panesOf S V).length (flatP (panesOf S V)) ∧ Kp (one lb) w w' ∧ LayAt w' lb sb S V

theorem idx_zero (fz ed n hi : Int) (W : World) :
    (Instr.index 107 (.agg #[.int .i64 0, .int .i64 fz, .int .i64 0, .int .i64 ed, .int .i64 fz, .int .i64 n, .int .i64 ed, .int .i64 hi]) (.int .i64 0)).run Try.prog W = .ok (.agg #[.int .i64 0, .int .i64 fz, .int .i64 0, .int .i64 ed]) W := by kernel_rfl
theorem idx_one (fz ed n hi : Int) (W : World) :
    (Instr.index 107 (.agg #[.int .i64 0, .int .i64 fz, .int .i64 0, .int .i64 ed, .int .i64 fz, .int .i64 n, .int .i64 ed, .int .i64 hi]) (.int .i64 1)).run Try.prog W = .ok (.agg #[.int .i64 fz, .int .i64 n, .int .i64 ed, .int .i64 hi]) W := by kernel_rfl
theorem idx107 (fz ed n hi : Nat) (i : Nat) (hlt : i < 2) (f e l h : Nat) (hf : f = if i = 0 then 0 else fz) (he : e = if i = 0 then fz else n) (hl : l = if i = 0 then 0 else ed) (hh : h = if i = 0 then ed else hi) (W : World) :
    (Instr.index 107 (.agg #[.int .i64 0, .int .i64 (fz : Int), .int .i64 0, .int .i64 (ed : Int), .int .i64 (fz : Int), .int .i64 (n : Int), .int .i64 (ed : Int), .int .i64 (hi : Int)]) (.int .i64 (i : Int))).run Try.prog W =
      .ok (.agg #[.int .i64 (f : Int), .int .i64 (e : Int), .int .i64 (l : Int), .int .i64 (h : Int)]) W := by
  have hc : i = 0 ∨ i = 1 := by omega
  rcases hc with hc | hc
  · subst hc hf he hl hh
    exact idx_zero _ _ _ _ _
  · subst hc hf he hl hh
    exact idx_one _ _ _ _ _

/-- append to a row of the call's own, as one step of a region that draws -/
theorem step_append_own {P : Program} {ops : Array Oper} {o : Oper} {a : Act} {w : World} {K : Act → World → Prop} {Q : Exit → Act → World → Prop} {E : Prop}
    (hg : o.guard = none) (s x : Operand) (t : TypeId) (ho : o.op = Op.call { callee := Callee.builtin Builtin.append, args := #[s, x], argTypes := #[t, t] })
    (base : Nat) (e : TypeId) (i : TypeInfo) (z : Value) (size bytes : Nat) (ht : P.underlying t = some (.slice e)) (hi : P.info? e = some i) (hz : i.zero = some z)
    (hsize : i.size = size) (hby : i.bytes = bytes) (hzs : z.cells.size = size) (hsz : 0 < size)
    (v : Value) (n : Nat) (xs : List Value) (hs : a.eval s = v) (hown : w.ownsRow base e size v n xs)
    (ad : Addr) (m c : Nat) (news : List Value) (hx : a.eval x = .slice (some ad) m c) (hl : news.length = m * size) (hnews : ∀ j u, news[j]? = some u → w.cell? (ad.add j) = some u) (h1 : ∀ u ∈ news, u.oneCell' = true)
    (h63 : n + m ≤ maxLen) (hbytes : (n + m) * bytes ≤ 140737488355328) (hbase : base ≤ w.heap.size)
    (hK : ∀ v' w', w'.ownsRow base e size v' (n + m) (xs ++ news) → w.grownBy w' v.ownBlock → K (a.put o.dst v') w') :
    if Region.wanted o (yielded ops a.tmps) = true then Oper.wp P o a w K Q else E := by
  have hw : Region.wanted o (yielded ops a.tmps) = true := by simp [Region.wanted, hg]
  rw [if_pos hw]
  obtain ⟨v', w', hr, h2, h3, _, _⟩ := run_append_own_at (P := P) w base t o.type e i z size bytes ht hi hz hsize hby hzs hsz v n xs hown ad m c news hl hnews h1 h63 hbytes hbase
  unfold Oper.wp execOp
  simp only [ho, resolve, invoke, builtin, Sem.run_bind, Sem.run_pure, Result.andThen_ok, List.map_toArray, List.map_cons, List.map_nil, hs, hx, hr]
  exact hK v' w' h2 h3

/-- a block of just four cells of the call's own -/
structure Box4n (w w' : World) (b : Nat) (x0 x1 x2 x3 : Value) : Prop where
  box : Box4 w w' b x0 x1 x2 x3
  c4 : w'.cell? ⟨b, 4, none⟩ = none
theorem Box4n.on {w w' w'' : World} {b : Nat} {x0 x1 x2 x3 : Value} (h : Box4n w w' b x0 x1 x2 x3) (k : Kp no w' w'') : Box4n w w'' b x0 x1 x2 x3 :=
  ⟨h.box.on k, k.nocell (show b < w'.heap.size from cell_lt h.box.c0) id h.c4⟩
theorem Box4n.made {w w' : World} (k : Kp no w w') (x0 x1 x2 x3 : Value) (t : TypeId) : Box4n w (w'.alloc (.cells #[x0, x1, x2, x3] t)) w'.heap.size x0 x1 x2 x3 :=
  ⟨⟨k.alloc _, k.size, by simp, by simp, by simp, by simp, fun o => by simp⟩, by simp⟩
theorem Box4n.append {w w' w'' : World} {b : Nat} {x0 x1 x2 x3 : Value} (h : Box4n w w' b x0 x1 x2 x3) {v : Value} {n : Nat} {xs : List Value} (ho : w'.ownsRow w.heap.size 58 8 v n xs) (hn : n = 0 → v.ownBlock = none) (hg : w'.grownBy w'' v.ownBlock) : Box4n w w'' b x0 x1 x2 x3 := by
  have hb : b < w'.heap.size := cell_lt h.box.c0
  have hne : some b ≠ v.ownBlock := fun e => by
    rcases Nat.eq_zero_or_pos n with h0 | h0
    · rw [hn h0] at e; cases e
    · have hc := ho.cells e.symm 4
      have hl : 4 < xs.length := by rw [ho.1]; omega
      have := hc xs[4] (List.getElem?_eq_getElem hl)
      rw [Addr.add_lit, Nat.zero_add, h.c4] at this
      cases this
  have e1 := hg.block b hb hne
  have c : ∀ o, w''.cell? ⟨b, o, none⟩ = w'.cell? ⟨b, o, none⟩ := fun o => World.cell?_of_block (w := w') e1
  exact ⟨⟨h.box.kp.appended ho hg, h.box.new, (c 0).trans h.box.c0, (c 1).trans h.box.c1, (c 2).trans h.box.c2, (c 3).trans h.box.c3, fun o => (World.frozen?_of_block (w := w') (a := ⟨b, o, none⟩) e1).trans (h.box.free o)⟩, (c 4).trans h.c4⟩
theorem info58 : (Try.prog.info? 58).map (fun i => (i.zero, i.size, i.bytes)) = some (some (.agg #[.int .i64 0, .int .i64 0, .int .i64 0, .int .i64 0, .int .i64 0, .int .i64 0, .int .i64 0, .int .i64 0]), 8, 64) := by kernel_rfl
theorem cell_eight_new (w : World) (x0 x1 x2 x3 x4 x5 x6 x7 : Value) (t : TypeId) : ∀ j u, [x0, x1, x2, x3, x4, x5, x6, x7][j]? = some u → (w.alloc (.cells #[x0, x1, x2, x3, x4, x5, x6, x7] t)).cell? ((⟨w.heap.size, 0, none⟩ : Addr).add j) = some u := by
  intro j u hj
  have hl : j < 8 := by
    rcases Nat.lt_or_ge j 8 with h | h
    · exact h
    · rw [List.getElem?_eq_none (by simpa using h)] at hj; cases hj
  rw [Addr.add_lit, Nat.zero_add]
  have : j = 0 ∨ j = 1 ∨ j = 2 ∨ j = 3 ∨ j = 4 ∨ j = 5 ∨ j = 6 ∨ j = 7 := by omega
  rcases this with rfl | rfl | rfl | rfl | rfl | rfl | rfl | rfl <;> simpa using hj

set_option maxRecDepth 100000 in
set_option maxHeartbeats 2000000 in
theorem panes_at (w : World) (lb sb : Nat) (S : Sh) (V : Vw) (h : SheetAt w sb S) (hS : S.Ok) (hL : LayAt w lb sb S V) (hV : V.Ok) :
    Calls Try.prog 14 #[.pointer (some ⟨lb, 0, none⟩)] w (PanesPost lb sb S V w) := by
  go_enter Try.func14, Try.ntmps14
  go_wp2_with fail
  refine (axes_at w lb sb S V h hS hV hL).mono ?_
  rintro e w6 ⟨rb, cb, rfl, k6, hA6, hL6⟩
  obtain ⟨a1, a2, a3, hrow⟩ := hA6.row
  obtain ⟨q1, q2, q3, hcol⟩ := hA6.col
  have okR := (rowOk hS hV).ok 0 0 0 (lnK 64 24 V.fr V.sr (rowSz S) 64)
  have okC := (colOk hS hV).ok 0 0 0 (lnK 26 80 V.fc V.sc (colSz S) 26)
  obtain ⟨R, hR⟩ : ∃ R, R = rowAx S V 0 0 0 := ⟨_, rfl⟩
  obtain ⟨C, hC⟩ : ∃ C, C = colAx S V 0 0 0 := ⟨_, rfl⟩
  have okR' : R.Ok := by rw [hR]; exact okR
  have okC' : C.Ok := by rw [hC]; exact okC
  have HRn : Hid (R.n = 64) := by show _ = _; rw [hR]; rfl
  have HCn : Hid (C.n = 26) := by show _ = _; rw [hC]; rfl
  have HRm : Hid (R.m = 24) := by show _ = _; rw [hR]; rfl
  have HCm : Hid (C.m = 80) := by show _ = _; rw [hC]; rfl
  have r2 : w6.cell? ⟨rb, 2, none⟩ = some (.int .i64 0) := hrow.c2
  have r3 : w6.cell? ⟨rb, 3, none⟩ = some (.int .i64 (R.fz : Int)) := by rw [hR]; exact hrow.c3
  have r4 : w6.cell? ⟨rb, 4, none⟩ = some (.int .i64 0) := hrow.c4
  have r5 : w6.cell? ⟨rb, 5, none⟩ = some (.int .i64 (R.edge : Int)) := by rw [hR]; exact hrow.c5
  have r6 : w6.cell? ⟨rb, 6, none⟩ = some (.int .i64 (R.fz : Int)) := by rw [hR]; exact hrow.c6
  have r7 : w6.cell? ⟨rb, 7, none⟩ = some (.int .i64 (R.n : Int)) := by rw [hR]; exact hrow.c7
  have r8 : w6.cell? ⟨rb, 8, none⟩ = some (.int .i64 (R.edge : Int)) := by rw [hR]; exact hrow.c8
  have r9 : w6.cell? ⟨rb, 9, none⟩ = some (.int .i64 (R.hi : Int)) := by rw [hR]; exact hrow.c9
  have HRL : Hid (w6.cell? ⟨rb, 10, none⟩ = some (.slice (some ⟨a3, 0, none⟩) R.m R.m) ∧ ∀ p, p < R.m → w6.cell? ⟨a3, p, none⟩ = some (.int .i64 (R.ln p))) := by rw [hR]; exact ⟨hrow.c10, hrow.cl⟩
  have HCC : Hid (w6.cell? ⟨cb, 2, none⟩ = some (.int .i64 0) ∧ w6.cell? ⟨cb, 3, none⟩ = some (.int .i64 (C.fz : Int)) ∧ w6.cell? ⟨cb, 4, none⟩ = some (.int .i64 0) ∧ w6.cell? ⟨cb, 5, none⟩ = some (.int .i64 (C.edge : Int)) ∧ w6.cell? ⟨cb, 6, none⟩ = some (.int .i64 (C.fz : Int)) ∧ w6.cell? ⟨cb, 7, none⟩ = some (.int .i64 (C.n : Int)) ∧ w6.cell? ⟨cb, 8, none⟩ = some (.int .i64 (C.edge : Int)) ∧ w6.cell? ⟨cb, 9, none⟩ = some (.int .i64 (C.hi : Int))) := by
    rw [hC]; exact ⟨hcol.c2, hcol.c3, hcol.c4, hcol.c5, hcol.c6, hcol.c7, hcol.c8, hcol.c9⟩
  have HCL : Hid (w6.cell? ⟨cb, 10, none⟩ = some (.slice (some ⟨q3, 0, none⟩) C.m C.m) ∧ ∀ p, p < C.m → w6.cell? ⟨q3, p, none⟩ = some (.int .i64 (C.ln p))) := by rw [hC]; exact ⟨hcol.c10, hcol.cl⟩
  have HP : Hid (panesOf S V = accPn R C 2) := by rw [hR, hC]; rfl
  have HK6 : Hid (Kp (one lb) w w6) := k6
  obtain ⟨i0, hi, hz0, hz1, hz2⟩ := info_parts info58
  clear hrow hcol hA6 okR okC hR hC k6
  go_wp2_with fail
  clear r2 r3 r4 r5 r6 r7 r8 r9
  go_loopw [5, 19] (fun ov iv wr => ∃ i : Nat, i ≤ 2 ∧ iv = .int .i64 (i : Int) ∧ Kp no w6 wr ∧ ((accPn R C i).length = 0 → ov.ownBlock = none) ∧ wr.ownsRow w6.heap.size 58 8 ov (accPn R C i).length (flatP (accPn R C i))) (fun _ iv _ => 2 - (intOf iv).toNat)
  case atStart => exact ⟨0, by omega, rfl, Kp.refl _ _, fun _ => rfl, World.ownsRow_nil _ _ _ _⟩
  case round =>
    obtain ⟨i, hi2, rfl, kr, hnil, hown⟩ := hrel
    by_cases hlt : i < 2
    · have hil : (i : Int) < 2 := by omega
      have hix := idx107 R.fz R.edge R.n R.hi i hlt (R.bFi i) (R.bEn i) (R.bLo i) (R.bHi i) rfl rfl rfl rfl
      have hRb : R.bHi i ≤ R.m := by unfold Ax.bHi; split <;> first | exact okR'.edge | exact okR'.hi
      generalize R.bFi i = rf at *
      generalize R.bEn i = re at *
      have HPN : Hid (∀ k, panePn R C i k = if R.bLo i < R.bHi i ∧ C.bLo k < C.bHi k then [⟨R.bLo i, C.bLo k, R.bHi i, C.bHi k, R.ln (R.bLo i), C.ln (C.bLo k), R.ln (R.bHi i - 1), C.ln (C.bHi k - 1)⟩] else []) := fun k => rfl
      generalize R.bLo i = rl at *
      generalize R.bHi i = rh at *
      obtain ⟨c2, c3, c4, c5, c6, c7, c8, c9⟩ := HCC.out
      have c2 := kr.cell c2 id
      have c3 := kr.cell c3 id
      have c4 := kr.cell c4 id
      have c5 := kr.cell c5 id
      have c6 := kr.cell c6 id
      have c7 := kr.cell c7 id
      have c8 := kr.cell c8 id
      have c9 := kr.cell c9 id
      have hcbl : cb < wr.heap.size := cell_lt c2
      have hB7 := Box4n.made kr (.int .i64 (rf : Int)) (.int .i64 (re : Int)) (.int .i64 (rl : Int)) (.int .i64 (rh : Int)) 106
      have how7 := hown.alloc (.cells #[.int .i64 (rf : Int), .int .i64 (re : Int), .int .i64 (rl : Int), .int .i64 (rh : Int)] 106)
      go_wp2_with fail
      generalize wr.alloc (.cells #[.int .i64 (rf : Int), .int .i64 (re : Int), .int .i64 (rl : Int), .int .i64 (rh : Int)] 106) = w7 at hB7 how7 ⊢
      generalize wr.heap.size = b7 at *
      clear c2 c3 c4 c5 c6 c7 c8 c9 hcbl hown hix kr
      go_loopw [5, 26] (fun ov kv wz => ∃ k : Nat, k ≤ 2 ∧ kv = .int .i64 (k : Int) ∧ Box4n w6 wz b7 (.int .i64 (rf : Int)) (.int .i64 (re : Int)) (.int .i64 (rl : Int)) (.int .i64 (rh : Int)) ∧ ((accPn R C i ++ innPn R C i k).length = 0 → ov.ownBlock = none) ∧ wz.ownsRow w6.heap.size 58 8 ov (accPn R C i ++ innPn R C i k).length (flatP (accPn R C i ++ innPn R C i k))) (fun _ kv _ => 2 - (intOf kv).toNat)
      case atStart => exact ⟨0, by omega, rfl, hB7, by simpa [innPn] using hnil, by simpa [innPn] using how7⟩
      case round =>
        clear hB7 how7 hnil
        obtain ⟨k, hk2, rfl, hB7, hnil, hown⟩ := hrel
        by_cases hklt : k < 2
        · have hkl : (k : Int) < 2 := by omega
          have hix := idx107 C.fz C.edge C.n C.hi k hklt (C.bFi k) (C.bEn k) (C.bLo k) (C.bHi k) rfl rfl rfl rfl
          have hCb : C.bHi k ≤ C.m := by unfold Ax.bHi; split <;> first | exact okC'.edge | exact okC'.hi
          have HIN : Hid (innPn R C i (k + 1) = innPn R C i k ++ (if rl < rh ∧ C.bLo k < C.bHi k then [⟨rl, C.bLo k, rh, C.bHi k, R.ln rl, C.ln (C.bLo k), R.ln (rh - 1), C.ln (C.bHi k - 1)⟩] else [])) := by show innPn R C i k ++ panePn R C i k = _; rw [HPN.out k]
          have HLEN : Hid ((accPn R C i ++ innPn R C i k).length ≤ 6) := by
            show _ ≤ _
            have q1 := accPn_len R C i
            have q2 := innPn_len R C i k
            rw [List.length_append]; omega
          generalize C.bFi k = cf at *
          generalize C.bEn k = ce at *
          generalize C.bLo k = cl at *
          generalize C.bHi k = ch at *
          have hB9 := Box4n.made hB7.box.kp (.int .i64 (cf : Int)) (.int .i64 (ce : Int)) (.int .i64 (cl : Int)) (.int .i64 (ch : Int)) 106
          have how9 := hown.alloc (.cells #[.int .i64 (cf : Int), .int .i64 (ce : Int), .int .i64 (cl : Int), .int .i64 (ch : Int)] 106)
          have hB79 := hB7.on ((Kp.refl no wr).alloc (.cells #[.int .i64 (cf : Int), .int .i64 (ce : Int), .int .i64 (cl : Int), .int .i64 (ch : Int)] 106))
          clear hB7 hown
          go_upto_region 9 with fail
          generalize wr.alloc (.cells #[.int .i64 (cf : Int), .int .i64 (ce : Int), .int .i64 (cl : Int), .int .i64 (ch : Int)] 106) = w9 at hB9 how9 hB79 ⊢
          generalize wr.heap.size = b9 at *
          have t7a := hB79.box.c2
          have t7b := hB79.box.c3
          have t9a := hB9.box.c2
          have t9b := hB9.box.c3
          by_cases d1 : rl < rh
          · have e1 : decide (rl < rh) = true := by simp [d1]
            by_cases d2 : cl < ch
            · have e2 : decide (cl < ch) = true := by simp [d2]
              have HI2 : Hid (innPn R C i (k + 1) = innPn R C i k ++ [⟨rl, cl, rh, ch, R.ln rl, C.ln cl, R.ln (rh - 1), C.ln (ch - 1)⟩]) := by have := HIN.out; rw [if_pos ⟨d1, d2⟩] at this; exact this
              have k9 := hB9.box.kp
              have n1 := HRL.out.1
              have n2 := HRL.out.2 rl (by omega)
              have n3 := HRL.out.2 (rh - 1) (by omega)
              have n4 := HCL.out.1
              have n5 := HCL.out.2 cl (by omega)
              have n6 := HCL.out.2 (ch - 1) (by omega)
              have m1 := k9.cell n1 id
              have m2 := k9.cell n2 id
              have m3 := k9.cell n3 id
              have m4 := k9.cell n4 id
              have m5 := k9.cell n5 id
              have m6 := k9.cell n6 id
              obtain ⟨rh', hrh⟩ : ∃ rh', rh - 1 = rh' := ⟨_, rfl⟩
              obtain ⟨ch', hch⟩ : ∃ ch', ch - 1 = ch' := ⟨_, rfl⟩
              rw [hrh] at m3 n3
              rw [hch] at m6 n6
              rw [hrh, hch] at HI2
              have x1 : (rl : Int) < (R.m : Int) := by omega
              have x2 : (rh' : Int) < (R.m : Int) := by omega
              have x3 : (cl : Int) < (C.m : Int) := by omega
              have x4 : (ch' : Int) < (C.m : Int) := by omega
              generalize hLL : accPn R C i ++ innPn R C i k = L at *
              have HLL : Hid (accPn R C i ++ innPn R C i k = L) := hLL
              clear hLL
              have hL6' : L.length ≤ 6 := HLEN.out
              have hsz6 : w6.heap.size ≤ w9.heap.size := k9.size
              generalize R.ln rl = z1 at *
              generalize R.ln rh' = z2 at *
              generalize C.ln cl = z3 at *
              generalize C.ln ch' = z4 at *
              go_wp2_with fail
              have HNL : Hid (L.length = 0 → u5.ownBlock = none) := hnil
              have hR80 : R.m ≤ 80 := okR'.m
              have hC80 : C.m ≤ 80 := okC'.m
              have hw1 : IntKind.i64.wrap (rh' : Int) = (rh' : Int) := by rw [IntKind.wrap_i64]; omega
              have hw2 : IntKind.i64.wrap (ch' : Int) = (ch' : Int) := by rw [IntKind.wrap_i64]; omega
              have hw3 : IntKind.i64.wrap ((rh : Int) - 1) = (rh' : Int) := by rw [IntKind.wrap_i64]; omega
              have hw4 : IntKind.i64.wrap ((ch : Int) - 1) = (ch' : Int) := by rw [IntKind.wrap_i64]; omega
              clear hrh hch
              have z01 : (0 : Int) ≤ (rh' : Int) := by omega
              have z02 : (0 : Int) ≤ (ch' : Int) := by omega
              clear hnil
              go_region_held3 (fun w' => w'.cell? ⟨b7, 2, none⟩ = some (.int .i64 (rl : Int)) ∧ w'.cell? ⟨b7, 3, none⟩ = some (.int .i64 (rh : Int)) ∧ w'.cell? ⟨b9, 2, none⟩ = some (.int .i64 (cl : Int)) ∧ w'.cell? ⟨b9, 3, none⟩ = some (.int .i64 (ch : Int)) ∧ w'.cell? ⟨rb, 10, none⟩ = some (.slice (some ⟨a3, 0, none⟩) R.m R.m) ∧ w'.cell? ⟨a3, rl, none⟩ = some (.int .i64 z1) ∧ w'.cell? ⟨a3, rh', none⟩ = some (.int .i64 z2) ∧ w'.cell? ⟨cb, 10, none⟩ = some (.slice (some ⟨q3, 0, none⟩) C.m C.m) ∧ w'.cell? ⟨q3, cl, none⟩ = some (.int .i64 z3) ∧ w'.cell? ⟨q3, ch', none⟩ = some (.int .i64 z4))
                (refine ⟨?_, ?_, ?_, ?_, ?_, ?_, ?_, ?_, ?_, ?_⟩ <;> first | assumption | exact (((Kp.refl no w9).alloc _).drew).cell (by assumption) id)
                (first | (refine step_append_own rfl _ _ 33 rfl w6.heap.size 58 i0 (.agg #[.int .i64 0, .int .i64 0, .int .i64 0, .int .i64 0, .int .i64 0, .int .i64 0, .int .i64 0, .int .i64 0]) 8 64 Try.underlying33 hi hz0 hz1 hz2 rfl (by decide) _ _ _ rfl ((how9.alloc _).drew) ⟨w9.heap.size, 0, none⟩ 1 1 [.int .i64 (rl : Int), .int .i64 (cl : Int), .int .i64 (rh : Int), .int .i64 (ch : Int), .int .i64 z1, .int .i64 z3, .int .i64 z2, .int .i64 z4] rfl rfl (fun j u hj => cell_eight_new w9 _ _ _ _ _ _ _ _ _ j u hj) (by intro u hu; simp at hu; rcases hu with rfl | rfl | rfl | rfl | rfl | rfl | rfl | rfl <;> rfl) (by unfold maxLen; omega) (by omega) (by simp; omega) ?_; intro v' w11 hown' hgrow; have B7' := (hB79.on (((Kp.refl no w9).alloc _).drew)).append ((how9.alloc _).drew) HNL.out hgrow; have B9' := (hB9.on (((Kp.refl no w9).alloc _).drew)).append ((how9.alloc _).drew) HNL.out hgrow; have K11 := B7'.box.kp; have j1 := B7'.box.c2; have j2 := B7'.box.c3; have j3 := B9'.box.c2; have j4 := B9'.box.c3; have j5 := K11.cell n1 id; have j6 := K11.cell n2 id; have j7 := K11.cell n3 id; have j8 := K11.cell n4 id; have j9 := K11.cell n5 id; have j10 := K11.cell n6 id))
              all_goals
                clear j1 j2 j3 j4 j5 j6 j7 j8 j9 j10 hw1 hw2 hw3 hw4 m1 m2 m3 m4 m5 m6 n1 n2 n3 n4 n5 n6 t7a t7b t9a t9b B9' K11
                go_wp2_with fail
                refine ⟨⟨k + 1, by omega, by go_num, B7', ?_, ?_⟩, by simp [intOf]; omega⟩
                · rw [HI2.out, ← List.append_assoc, HLL.out, List.length_append]
                  intro h0
                  simp at h0
                · rw [HI2.out, ← List.append_assoc, HLL.out, List.length_append, flatP_append]
                  exact hown'
            · have e2 : decide (cl < ch) = false := by simp; omega
              have HI2 : Hid (innPn R C i (k + 1) = innPn R C i k) := by have := HIN.out; rw [if_neg (by omega), List.append_nil] at this; exact this
              go_wp2_with fail
              go_roundw
              case rel => exact ⟨k + 1, by omega, by go_num, hB79, by rw [HI2.out]; exact hnil, by rw [HI2.out]; exact how9⟩
              case measure => simp [intOf]; omega
          · have e1 : decide (rl < rh) = false := by simp; omega
            have HI2 : Hid (innPn R C i (k + 1) = innPn R C i k) := by have := HIN.out; rw [if_neg (by omega), List.append_nil] at this; exact this
            go_wp2_with fail
            go_roundw
            case rel => exact ⟨k + 1, by omega, by go_num, hB79, by rw [HI2.out]; exact hnil, by rw [HI2.out]; exact how9⟩
            case measure => simp [intOf]; omega
        · have hk' : 2 = k := by omega
          subst hk'
          go_wp2_with fail
          go_roundw
          case rel => exact ⟨i + 1, by omega, by go_num, hB7.box.kp, hnil, hown⟩
          case measure => simp [intOf]; omega
    · have hi' : 2 = i := by omega
      subst hi'
      have HF : Hid (wr.ownsRow w.heap.size 58 8 u5 (panesOf S V).length (flatP (panesOf S V))) := by rw [HP.out]; exact owns_mono hown HK6.out.size
      go_wp2_with fail
      go_ret
      exact ⟨_, rfl, HF.out, HK6.out.trans (Kp.of_no kr), hL6.on kr⟩
end Go.Proofs.Qxb6500653a
