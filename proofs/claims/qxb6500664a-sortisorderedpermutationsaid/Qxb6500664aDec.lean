namespace Go.Proofs.Qxb6500664a.Dec

/-- the digit d as its byte -/
def dig (d : Nat) : UInt8 := UInt8.ofNat (48 + d)
/-- the decimal digits of u, at most f of them -/
def dgt : Nat → Nat → List UInt8
  | 0, _ => []
  | f + 1, u => if u < 10 then [dig u] else dgt f (u / 10) ++ [dig (u % 10)]
/-- the decimal text of v -/
def text (v : Int) : List UInt8 := if v < 0 then 45 :: dgt 20 v.natAbs else dgt 20 v.natAbs

/-- what the reader's loop does: code (0: fine), number, whether it is too great -/
def scan (lim : Nat) : List UInt8 → Nat → Bool → Nat × Nat × Bool
  | [], u, o => (0, u, o)
  | c :: r, u, o =>
    if c.toNat = 45 ∨ c.toNat = 43 then (10, 0, false)
    else if c.toNat < 48 ∨ 57 < c.toNat then (11, 0, false)
    else if o = true ∨ (lim - (c.toNat - 48)) / 10 < u then scan lim r u true
    else scan lim r (u * 10 + (c.toNat - 48)) false

/-- behind the loop -/
def fin (neg : Bool) (d : UInt8) (n : Nat) (s : Nat × Nat × Bool) : Int × Nat :=
  if s.1 ≠ 0 then (0, s.1)
  else if d.toNat = 48 ∧ 1 < n then (0, 12)
  else if d.toNat = 48 ∧ neg = true then (0, 10)
  else if s.2.2 = true then (0, 13)
  else if neg = true then (-(s.2.1 : Int), 0) else ((s.2.1 : Int), 0)

def limOf (neg : Bool) : Nat := if neg then 9223372036854775808 else 9223372036854775807

def parseDs (neg : Bool) : List UInt8 → Int × Nat
  | [] => (0, 10)
  | d :: q => fin neg d (q.length + 1) (scan (limOf neg) (d :: q) 0 false)

/-- the reader: the number and the code (0: fine) -/
def parse : List UInt8 → Int × Nat
  | [] => (0, 9)
  | c :: r => if c.toNat = 45 then parseDs true r else parseDs false (c :: r)

def isDig (c : UInt8) : Prop := 48 ≤ c.toNat ∧ c.toNat ≤ 57

def val : List UInt8 → Nat → Nat
  | [], u => u
  | c :: r, u => val r (u * 10 + (c.toNat - 48))

theorem val_append (a b : List UInt8) (u : Nat) : val (a ++ b) u = val b (val a u) := by
  induction a generalizing u with
  | nil => rfl
  | cons c r ih => simp only [List.cons_append, val, ih]

theorem le_val (l : List UInt8) (u : Nat) : u ≤ val l u := by
  induction l generalizing u with
  | nil => exact Nat.le_refl _
  | cons c r ih => have := ih (u * 10 + (c.toNat - 48)); simp only [val]; omega

theorem dig_toNat {d : Nat} (h : d < 10) : (dig d).toNat = 48 + d := by
  unfold dig; rw [UInt8.toNat_ofNat']; omega

theorem dig_isDig {d : Nat} (h : d < 10) : isDig (dig d) := by
  have := dig_toNat h; unfold isDig; omega

theorem dgt_isDig (f u : Nat) : ∀ c ∈ dgt f u, isDig c := by
  induction f generalizing u with
  | zero => intro c h; simp [dgt] at h
  | succ f ih =>
    intro c h
    unfold dgt at h
    by_cases hu : u < 10
    · rw [if_pos hu] at h; simp at h; subst h; exact dig_isDig hu
    · rw [if_neg hu] at h
      rw [List.mem_append] at h
      rcases h with h | h
      · exact ih _ c h
      · simp at h; subst h; exact dig_isDig (by omega)

theorem dgt_val (f u : Nat) (h : u < 10 ^ f) : val (dgt f u) 0 = u := by
  induction f generalizing u with
  | zero => simp at h; subst h; rfl
  | succ f ih =>
    unfold dgt
    by_cases hu : u < 10
    · rw [if_pos hu]; simp [val, dig_toNat hu]
    · rw [if_neg hu, val_append, ih (u / 10) (by rw [Nat.pow_succ] at h; omega)]
      simp only [val]
      rw [dig_toNat (by omega)]; omega

theorem dgt_len (f u : Nat) : (dgt f u).length ≤ f := by
  induction f generalizing u with
  | zero => simp [dgt]
  | succ f ih =>
    unfold dgt
    by_cases hu : u < 10
    · rw [if_pos hu]; simp
    · rw [if_neg hu]; have := ih (u / 10); simp; omega

theorem dgt_ne (f u : Nat) : dgt (f + 1) u ≠ [] := by
  unfold dgt
  by_cases hu : u < 10
  · rw [if_pos hu]; simp
  · rw [if_neg hu]; simp

/-- the first digit is a zero for the number 0 alone -/
theorem dgt_head (f u : Nat) (h : u < 10 ^ (f + 1)) (hu0 : u ≠ 0) : ∃ d q, dgt (f + 1) u = d :: q ∧ isDig d ∧ d.toNat ≠ 48 := by
  induction f generalizing u with
  | zero =>
    have hu : u < 10 := by simpa using h
    refine ⟨dig u, [], ?_, dig_isDig hu, ?_⟩
    · unfold dgt; rw [if_pos hu]
    · rw [dig_toNat hu]; omega
  | succ f ih =>
    unfold dgt
    by_cases hu : u < 10
    · rw [if_pos hu]; exact ⟨_, _, rfl, dig_isDig hu, by rw [dig_toNat hu]; omega⟩
    · rw [if_neg hu]
      obtain ⟨d, q, e, h1, h2⟩ := ih (u / 10) (by rw [Nat.pow_succ] at h; omega) (by omega)
      exact ⟨d, q ++ [dig (u % 10)], by rw [e]; rfl, h1, h2⟩

theorem dgt_zero (f : Nat) : dgt (f + 1) 0 = [48] := by
  unfold dgt; rw [if_pos (by omega)]; rfl

/-! ### The reader over digits -/
theorem scan_step (lim : Nat) (c : UInt8) (r : List UInt8) (u : Nat) (o : Bool) (h : isDig c) :
    scan lim (c :: r) u o = if o = true ∨ (lim - (c.toNat - 48)) / 10 < u then scan lim r u true else scan lim r (u * 10 + (c.toNat - 48)) false := by
  unfold isDig at h
  rw [scan, if_neg (by omega), if_neg (by omega)]

theorem scan_over (lim : Nat) (l : List UInt8) (u : Nat) (h : ∀ c ∈ l, isDig c) : scan lim l u true = (0, u, true) := by
  induction l with
  | nil => rfl
  | cons c r ih =>
    rw [scan_step _ _ _ _ _ (h c (by simp)), if_pos (Or.inl rfl)]
    exact ih (fun d hd => h d (by simp [hd]))

theorem scan_fits (lim : Nat) (_hl : 9 ≤ lim) (l : List UInt8) (u : Nat) (h : ∀ c ∈ l, isDig c) (hv : val l u ≤ lim) : scan lim l u false = (0, val l u, false) := by
  induction l generalizing u with
  | nil => rfl
  | cons c r ih =>
    have hc := h c (by simp)
    rw [scan_step _ _ _ _ _ hc]
    have := le_val r (u * 10 + (c.toNat - 48))
    simp only [val] at hv ⊢
    unfold isDig at hc
    rw [if_neg (by simp; omega)]
    exact ih _ (fun d hd => h d (by simp [hd])) hv

theorem scan_great (lim : Nat) (hl : 9 ≤ lim) (l : List UInt8) (u : Nat) (h : ∀ c ∈ l, isDig c) (hu : u ≤ lim) (hv : lim < val l u) : ∃ m, scan lim l u false = (0, m, true) := by
  induction l generalizing u with
  | nil => simp [val] at hv; omega
  | cons c r ih =>
    have hc := h c (by simp)
    have hr : ∀ d ∈ r, isDig d := fun d hd => h d (by simp [hd])
    rw [scan_step _ _ _ _ _ hc]
    unfold isDig at hc
    by_cases hb : (lim - (c.toNat - 48)) / 10 < u
    · rw [if_pos (Or.inr hb), scan_over _ _ _ hr]; exact ⟨_, rfl⟩
    · rw [if_neg (by simp; omega)]
      exact ih _ hr (by omega) hv

theorem scan_code (lim : Nat) (l : List UInt8) (u : Nat) (o : Bool) (h : ∀ c ∈ l, isDig c) : (scan lim l u o).1 = 0 := by
  induction l generalizing u o with
  | nil => rfl
  | cons c r ih =>
    rw [scan_step _ _ _ _ _ (h c (by simp))]
    have hr : ∀ d ∈ r, isDig d := fun d hd => h d (by simp [hd])
    split
    · exact ih _ _ hr
    · exact ih _ _ hr

/-- a bad byte behind digits -/
theorem scan_bad (lim : Nat) (l : List UInt8) (b : UInt8) (r : List UInt8) (k : Nat) (hb : ∀ u o, scan lim (b :: r) u o = (k, 0, false)) (u : Nat) (o : Bool) (h : ∀ c ∈ l, isDig c) :
    scan lim (l ++ b :: r) u o = (k, 0, false) := by
  induction l generalizing u o with
  | nil => exact hb u o
  | cons c q ih =>
    rw [List.cons_append, scan_step _ _ _ _ _ (h c (by simp))]
    have hr : ∀ d ∈ q, isDig d := fun d hd => h d (by simp [hd])
    split
    · exact ih _ _ hr
    · exact ih _ _ hr

theorem scan_minus (lim : Nat) (r : List UInt8) (u : Nat) (o : Bool) : scan lim (45 :: r) u o = (10, 0, false) := by
  rw [scan, if_pos (by decide)]
theorem scan_plus (lim : Nat) (r : List UInt8) (u : Nat) (o : Bool) : scan lim (43 :: r) u o = (10, 0, false) := by
  rw [scan, if_pos (by decide)]
theorem scan_blank (lim : Nat) (r : List UInt8) (u : Nat) (o : Bool) : scan lim (32 :: r) u o = (11, 0, false) := by
  rw [scan, if_neg (by decide), if_pos (by decide)]

theorem limOf_ge (b : Bool) : 9 ≤ limOf b := by cases b <;> decide

theorem pow20 : (10 : Nat) ^ 20 = 100000000000000000000 := by decide
theorem pow19 : (10 : Nat) ^ 19 = 10000000000000000000 := by decide

theorem parseDs_bad (neg : Bool) (d : UInt8) (q : List UInt8) (k : Nat) (hk : k ≠ 0) (h : scan (limOf neg) (d :: q) 0 false = (k, 0, false)) : parseDs neg (d :: q) = (0, k) := by
  simp only [parseDs, h, fin]; rw [if_pos hk]

theorem bad_in (neg : Bool) (l : List UInt8) (b : UInt8) (r : List UInt8) (k : Nat) (hk : k ≠ 0) (hb : ∀ u o, scan (limOf neg) (b :: r) u o = (k, 0, false)) (h : ∀ c ∈ l, isDig c) :
    parseDs neg (l ++ b :: r) = (0, k) := by
  have hs := scan_bad (limOf neg) l b r k hb 0 false h
  cases l with
  | nil => exact parseDs_bad neg b r k hk hs
  | cons c q => exact parseDs_bad neg c (q ++ b :: r) k hk hs

/-- digits of a number in reach -/
theorem parseDs_fits (neg : Bool) (n : Nat) (hn : n ≤ limOf neg) (h0 : neg = true → n ≠ 0) : parseDs neg (dgt 20 n) = (if neg then -(n : Int) else (n : Int), 0) := by
  have hp : n < 10 ^ 20 := by rw [pow20]; unfold limOf at hn; split at hn <;> omega
  have hd := dgt_isDig 20 n
  have hv := dgt_val 20 n hp
  have hs := scan_fits (limOf neg) (limOf_ge neg) (dgt 20 n) 0 hd (by rw [hv]; exact hn)
  rw [hv] at hs
  by_cases hz : n = 0
  · subst hz
    cases neg with
    | true => exact absurd rfl (h0 rfl)
    | false => decide
  · obtain ⟨d, q, e, h1, h2⟩ := dgt_head 19 n hp hz
    rw [show dgt 20 n = d :: q from e] at hs ⊢
    simp only [parseDs, hs, fin]
    rw [if_neg (by simp), if_neg (fun h => h2 h.1), if_neg (fun h => h2 h.1), if_neg (by simp)]
    cases neg <;> rfl

theorem limOf_true : limOf true = 9223372036854775808 := rfl
theorem limOf_false : limOf false = 9223372036854775807 := rfl

theorem dgt_ne_minus (n : Nat) : ∃ d q, dgt 20 n = d :: q ∧ isDig d := by
  cases e : dgt 20 n with
  | nil => exact absurd e (dgt_ne 19 n)
  | cons d q => exact ⟨d, q, rfl, dgt_isDig 20 n d (by rw [e]; simp)⟩

theorem parse_pos (d : UInt8) (r : List UInt8) (h : d.toNat ≠ 45) : parse (d :: r) = parseDs false (d :: r) := by
  simp only [parse]; rw [if_neg h]
theorem parse_neg (r : List UInt8) : parse (45 :: r) = parseDs true r := by
  simp only [parse]; rw [if_pos (by decide)]

/-- THE TEXT PARSES BACK. -/
theorem parse_text (v : Int) (h1 : -9223372036854775808 ≤ v) (h2 : v ≤ 9223372036854775807) : parse (text v) = (v, 0) := by
  unfold text
  by_cases hv : v < 0
  · rw [if_pos hv, parse_neg, parseDs_fits true _ (by rw [limOf_true]; omega) (fun _ => by omega)]
    simp; omega
  · rw [if_neg hv]
    obtain ⟨d, q, e, hd⟩ := dgt_ne_minus v.natAbs
    have := parseDs_fits false v.natAbs (by rw [limOf_false]; omega) (by simp)
    rw [e] at this ⊢
    rw [parse_pos d q (by unfold isDig at hd; omega), this]
    simp; omega

theorem dgt_len_lt (n : Nat) (f : Nat) (h : n < 10 ^ f) (hf : 0 < f) : ∀ g, (dgt g n).length ≤ f := by
  intro g
  induction f generalizing n g with
  | zero => omega
  | succ f ih =>
    cases g with
    | zero => simp [dgt]
    | succ g =>
      unfold dgt
      by_cases hu : n < 10
      · rw [if_pos hu]; simp
      · rw [if_neg hu]
        have hf0 : 0 < f := by
          rcases Nat.eq_zero_or_pos f with h0 | h0
          · subst h0; simp at h; omega
          · exact h0
        have := ih (n / 10) (by rw [Nat.pow_succ] at h; omega) hf0 g
        simp; omega

theorem text_len (v : Int) (h1 : -9223372036854775808 ≤ v) (h2 : v ≤ 9223372036854775807) : 1 ≤ (text v).length ∧ (text v).length ≤ 20 := by
  have hl := dgt_len_lt v.natAbs 19 (by rw [pow19]; omega) (by omega) 20
  obtain ⟨d, q, e, _⟩ := dgt_ne_minus v.natAbs
  unfold text
  split
  · simp only [List.length_cons]; omega
  · rw [e] at hl ⊢; simp only [List.length_cons] at hl ⊢; omega

/-! ### The spoilt texts -/
/-- the sign of v's text -/
def sgn (v : Int) : List UInt8 := if v < 0 then [45] else []
def mg (v : Int) : List UInt8 := dgt 20 v.natAbs
theorem text_eq (v : Int) : text v = sgn v ++ mg v := by
  unfold text sgn mg; split <;> rfl

theorem parse_sgn (v : Int) (d : UInt8) (r : List UInt8) (hd : d.toNat ≠ 45) : parse (sgn v ++ d :: r) = parseDs (decide (v < 0)) (d :: r) := by
  unfold sgn
  by_cases hv : v < 0
  · rw [if_pos hv]; simp [hv, parse]
  · rw [if_neg hv]; simp only [List.nil_append]; rw [parse_pos d r hd]; simp [hv]

theorem mg_cons (v : Int) : ∃ d q, mg v = d :: q ∧ isDig d ∧ ∀ c ∈ q, isDig c := by
  obtain ⟨d, q, e, hd⟩ := dgt_ne_minus v.natAbs
  exact ⟨d, q, e, hd, fun c hc => dgt_isDig 20 v.natAbs c (by rw [e]; simp [hc])⟩

theorem refuse_zero (v : Int) : parse (sgn v ++ 48 :: mg v) = (0, 12) := by
  rw [parse_sgn v 48 _ (by decide)]
  have hd : ∀ c ∈ 48 :: mg v, isDig c := by
    intro c hc
    rw [List.mem_cons] at hc
    rcases hc with rfl | hc
    · unfold isDig; decide
    · exact dgt_isDig 20 _ c hc
  have hc := scan_code (limOf (decide (v < 0))) (48 :: mg v) 0 false hd
  obtain ⟨d, q, e, _, _⟩ := mg_cons v
  simp only [parseDs, fin]
  rw [if_neg (by simp [hc]), if_pos ⟨rfl, by rw [e]; simp⟩]

theorem refuse_plus (v : Int) : parse (43 :: text v) = (0, 10) := by
  rw [parse_pos 43 _ (by decide)]
  exact parseDs_bad false 43 _ 10 (by decide) (scan_plus _ _ _ _)

theorem refuse_minus2 (r : List UInt8) : parse (45 :: 45 :: r) = (0, 10) := by
  rw [parse_neg]; exact parseDs_bad true 45 _ 10 (by decide) (scan_minus _ _ _ _)

theorem refuse_behind (v : Int) (b : UInt8) (k : Nat) (hk : k ≠ 0) (hb : ∀ lim u o, scan lim [b] u o = (k, 0, false)) : parse (text v ++ [b]) = (0, k) := by
  obtain ⟨d, q, e, h1, h2⟩ := mg_cons v
  rw [text_eq, e, List.append_assoc, List.cons_append, parse_sgn v d _ (by unfold isDig at h1; omega)]
  exact bad_in (decide (v < 0)) (d :: q) b [] k hk (fun u o => hb _ u o) (by intro c hc; rw [List.mem_cons] at hc; rcases hc with rfl | hc; exact h1; exact h2 c hc)

theorem refuse_within (v : Int) : parse (sgn v ++ ((mg v).take 1 ++ 45 :: (mg v).drop 1)) = (0, 10) := by
  obtain ⟨d, q, e, h1, h2⟩ := mg_cons v
  rw [e]
  simp only [List.take_succ_cons, List.take_zero, List.drop_succ_cons, List.drop_zero, List.cons_append, List.nil_append]
  rw [parse_sgn v d _ (by unfold isDig at h1; omega)]
  exact bad_in (decide (v < 0)) [d] 45 q 10 (by decide) (fun u o => scan_minus _ _ u o) (by intro c hc; simp at hc; subst hc; exact h1)

theorem refuse_blank (r : List UInt8) : parse (32 :: r) = (0, 11) := by
  rw [parse_pos 32 _ (by decide)]
  exact parseDs_bad false 32 _ 11 (by decide) (scan_blank _ _ _ _)

theorem val_zeros (k u : Nat) : val (List.replicate k 48) u = u * 10 ^ k := by
  induction k generalizing u with
  | zero => simp [val]
  | succ k ih => rw [List.replicate_succ]; simp only [val]; rw [ih, Nat.pow_succ, show (48 : UInt8).toNat - 48 = 0 from rfl, Nat.add_zero, Nat.mul_assoc, Nat.mul_comm 10]

/-- digits that begin with no zero make at least a power of ten -/
theorem val_ge (q : List UInt8) (u : Nat) : u * 10 ^ q.length ≤ val q u := by
  induction q generalizing u with
  | nil => simp [val]
  | cons c r ih =>
    simp only [val, List.length_cons]
    refine Nat.le_trans ?_ (ih _)
    rw [Nat.pow_succ, Nat.mul_comm (10 ^ r.length) 10, ← Nat.mul_assoc]
    exact Nat.mul_le_mul_right _ (by omega)

theorem refuse_long (v : Int) (hv : v ≠ 0) (k : Nat) (h1 : -9223372036854775808 ≤ v) (h2 : v ≤ 9223372036854775807) (hk : (mg v).length + k = 20) : parse (text v ++ List.replicate k 48) = (0, 13) := by
  obtain ⟨d, q, e, hd, h48⟩ := dgt_head 19 v.natAbs (by rw [pow20]; omega) (by omega)
  have e' : mg v = d :: q := e
  have hdig := dgt_isDig 20 v.natAbs
  have hall : ∀ c ∈ d :: (q ++ List.replicate k 48), isDig c := by
    intro c hc
    rw [List.mem_cons, List.mem_append] at hc
    rcases hc with rfl | hc | hc
    · exact hd
    · exact hdig c (by rw [show dgt 20 v.natAbs = d :: q from e]; simp [hc])
    · rw [List.mem_replicate] at hc; rw [hc.2]; unfold isDig; decide
  rw [text_eq, e', List.append_assoc, List.cons_append, parse_sgn v d _ (by unfold isDig at hd; omega)]
  have hlen : (q ++ List.replicate k 48).length = 19 := by rw [e'] at hk; simp only [List.length_cons] at hk; simp; omega
  have hge := val_ge (q ++ List.replicate k 48) (0 * 10 + (d.toNat - 48))
  rw [hlen, pow19] at hge
  unfold isDig at hd
  have hlim : limOf (decide (v < 0)) < val (d :: (q ++ List.replicate k 48)) 0 := by
    simp only [val]
    have : limOf (decide (v < 0)) ≤ 9223372036854775808 := by unfold limOf; split <;> omega
    omega
  obtain ⟨m, hm⟩ := scan_great (limOf (decide (v < 0))) (limOf_ge _) _ 0 hall (Nat.zero_le _) hlim
  simp only [parseDs, hm, fin]
  rw [if_neg (by simp), if_neg (fun h => h48 h.1), if_neg (fun h => h48 h.1)]
  simp

end Go.Proofs.Qxb6500664a.Dec
