/-
  THE PLAIN LAWS OF THE SORT: no Go in sight. Elements are tags (numbers); 'K t' is the key of tag t.
-/
namespace Go.Proofs.Qxb6500664a.Ord

/-- dictionary order: -1, 0, 1 -/
def cmp : List UInt8 → List UInt8 → Int
  | [], [] => 0
  | [], _ :: _ => -1
  | _ :: _, [] => 1
  | a :: x, b :: y => if a.toNat < b.toNat then -1 else if b.toNat < a.toNat then 1 else cmp x y

theorem cmp_range (x y : List UInt8) : cmp x y = -1 ∨ cmp x y = 0 ∨ cmp x y = 1 := by
  induction x generalizing y with
  | nil => cases y <;> simp [cmp]
  | cons a x ih =>
    cases y with
    | nil => simp [cmp]
    | cons b y =>
      simp only [cmp]
      by_cases h1 : a.toNat < b.toNat
      · simp [h1]
      · by_cases h2 : b.toNat < a.toNat
        · simp [h1, h2]
        · simp only [h1, h2, if_false]; exact ih y

theorem cmp_self (x : List UInt8) : cmp x x = 0 := by
  induction x with
  | nil => rfl
  | cons a x ih => simp [cmp, ih]

theorem cmp_eq {x y : List UInt8} (h : cmp x y = 0) : x = y := by
  induction x generalizing y with
  | nil => cases y with
    | nil => rfl
    | cons b y => simp [cmp] at h
  | cons a x ih =>
    cases y with
    | nil => simp [cmp] at h
    | cons b y =>
      simp only [cmp] at h
      by_cases h1 : a.toNat < b.toNat
      · simp [h1] at h
      · by_cases h2 : b.toNat < a.toNat
        · simp [h1, h2] at h
        · simp only [h1, h2, if_false] at h
          have : a = b := by
            have e : a.toNat = b.toNat := by omega
            exact UInt8.toNat_inj.1 e
          rw [this, ih h]

theorem cmp_swap (x y : List UInt8) : cmp y x = - cmp x y := by
  induction x generalizing y with
  | nil => cases y <;> simp [cmp]
  | cons a x ih =>
    cases y with
    | nil => simp [cmp]
    | cons b y =>
      simp only [cmp]
      by_cases h1 : a.toNat < b.toNat
      · have h2 : ¬ b.toNat < a.toNat := by omega
        simp [h1, h2]
      · by_cases h2 : b.toNat < a.toNat
        · simp [h1, h2]
        · simp only [h1, h2, if_false]; exact ih y

theorem cmp_trans {x y z : List UInt8} (h1 : cmp x y < 0) (h2 : cmp y z < 0) : cmp x z < 0 := by
  induction x generalizing y z with
  | nil => cases z with
    | nil => cases y <;> simp [cmp] at h1 h2
    | cons c z => simp [cmp]
  | cons a x ih =>
    cases y with
    | nil => simp [cmp] at h1
    | cons b y =>
      cases z with
      | nil => simp [cmp] at h2
      | cons c z =>
        simp only [cmp] at h1 h2 ⊢
        by_cases a1 : a.toNat < b.toNat
        · by_cases b1 : b.toNat < c.toNat
          · have : a.toNat < c.toNat := by omega
            simp [this]
          · by_cases b2 : c.toNat < b.toNat
            · simp [b1, b2] at h2
            · have : a.toNat < c.toNat := by omega
              simp [this]
        · by_cases a2 : b.toNat < a.toNat
          · simp [a1, a2] at h1
          · simp only [a1, a2, if_false] at h1
            by_cases b1 : b.toNat < c.toNat
            · have : a.toNat < c.toNat := by omega
              simp [this]
            · by_cases b2 : c.toNat < b.toNat
              · simp [b1, b2] at h2
              · simp only [b1, b2, if_false] at h2
                have c1 : ¬ a.toNat < c.toNat := by omega
                have c2 : ¬ c.toNat < a.toNat := by omega
                simp only [c1, c2, if_false]
                exact ih h1 h2

/-! ### the order on tags -/
section
variable (K : Nat → List UInt8)

/-- key first, then tag -/
def R (a b : Nat) : Prop := cmp (K a) (K b) < 0 ∨ (K a = K b ∧ a < b)

theorem R.trans {a b c : Nat} (h1 : R K a b) (h2 : R K b c) : R K a c := by
  rcases h1 with h1 | ⟨e1, l1⟩
  · rcases h2 with h2 | ⟨e2, l2⟩
    · exact Or.inl (cmp_trans h1 h2)
    · exact Or.inl (e2 ▸ h1)
  · rcases h2 with h2 | ⟨e2, l2⟩
    · exact Or.inl (e1 ▸ h2)
    · exact Or.inr ⟨e1.trans e2, by omega⟩

theorem R.asymm {a b : Nat} (h1 : R K a b) (h2 : R K b a) : False := by
  rcases R.trans K h1 h2 with h | ⟨_, h⟩
  · rw [cmp_self] at h; omega
  · omega

/-- what 'less' says of two tags in order -/
theorem R_of_not_less {a b : Nat} (hab : a < b) (h : ¬ cmp (K b) (K a) < 0) : R K a b := by
  rw [cmp_swap] at h
  rcases cmp_range (K a) (K b) with e | e | e
  · exact Or.inl (by rw [e]; omega)
  · exact Or.inr ⟨cmp_eq e, hab⟩
  · rw [e] at h; omega

/-- the row is ordered -/
def Srt (p : List Nat) : Prop := p.Pairwise (R K)

/-- TWO ORDERED ROWS OF THE SAME TAGS ARE ONE. -/
theorem srt_unique {p q : List Nat} (hp : Srt K p) (hq : Srt K q) (h : p.Perm q) : p = q := by
  induction p generalizing q with
  | nil => exact (List.Perm.nil_eq h)
  | cons a p ih =>
    cases q with
    | nil => exact absurd h.length_eq (by simp)
    | cons b q =>
      have hp' := List.pairwise_cons.1 hp
      have hq' := List.pairwise_cons.1 hq
      have hab : a = b := by
        have ha : a ∈ b :: q := h.subset (by simp)
        have hb : b ∈ a :: p := h.symm.subset (by simp)
        rcases List.mem_cons.1 ha with e | ha'
        · exact e
        · rcases List.mem_cons.1 hb with e | hb'
          · exact e.symm
          · exact (R.asymm K (hp'.1 b hb') (hq'.1 a ha')).elim
      subst hab
      rw [ih hp'.2 hq'.2 (List.Perm.cons_inv h)]

/-! ### insertion: the state of the inner loop: the row is q ++ [hole] ++ r, the item t stands aside -/
/-- t goes behind q and ahead of r -/
theorem srt_insert {q r : List Nat} {t : Nat} (h : Srt K (q ++ r)) (h1 : ∀ x ∈ q, R K x t) (h2 : ∀ x ∈ r, R K t x) : Srt K (q ++ t :: r) := by
  unfold Srt at *
  rw [List.pairwise_append] at *
  obtain ⟨a1, a2, a3⟩ := h
  refine ⟨a1, List.pairwise_cons.2 ⟨h2, a2⟩, ?_⟩
  intro x hx y hy
  rcases List.mem_cons.1 hy with e | hy
  · rw [e]; exact h1 x hx
  · exact a3 x hx y hy

theorem srt_left {q r : List Nat} (h : Srt K (q ++ r)) : Srt K q := (List.pairwise_append.1 h).1
theorem srt_right {q r : List Nat} (h : Srt K (q ++ r)) : Srt K r := (List.pairwise_append.1 h).2.1
theorem srt_cross {q r : List Nat} (h : Srt K (q ++ r)) : ∀ x ∈ q, ∀ y ∈ r, R K x y := (List.pairwise_append.1 h).2.2

/-- all of an ordered row stands before t if its last does -/
theorem before_of_last {q : List Nat} {x t : Nat} (h : Srt K (q ++ [x])) (hx : R K x t) : ∀ y ∈ q ++ [x], R K y t := by
  intro y hy
  rcases List.mem_append.1 hy with hy | hy
  · exact R.trans K (srt_cross K h y hy x (by simp)) hx
  · rw [List.mem_singleton.1 hy]; exact hx

/-! ### merging: what is left of both rows -/
/-- o: what is written; x, y: what is left of both -/
structure Mrg (o x y : List Nat) : Prop where
  so : Srt K o
  sx : Srt K x
  sy : Srt K y
  ox : ∀ a ∈ o, ∀ b ∈ x, R K a b
  oy : ∀ a ∈ o, ∀ b ∈ y, R K a b
  lt : ∀ a ∈ x, ∀ b ∈ y, a < b

theorem srt_snoc {o : List Nat} {t : Nat} (h : Srt K o) (h1 : ∀ x ∈ o, R K x t) : Srt K (o ++ [t]) := by
  have := srt_insert K (q := o) (r := []) (t := t) (by simpa using h) h1 (by simp)
  simpa using this

/-- from the left row -/
theorem Mrg.left {o x y : List Nat} {t : Nat} (h : Mrg K o (t :: x) y) (hy : ∀ b r, y = b :: r → ¬ cmp (K b) (K t) < 0) : Mrg K (o ++ [t]) x y := by
  have hx := List.pairwise_cons.1 h.sx
  have ht : ∀ b ∈ y, R K t b := by
    cases hy' : y with
    | nil => simp
    | cons b r =>
      have hb : R K t b := R_of_not_less K (h.lt t (by simp) b (by rw [hy']; simp)) (hy b r hy')
      have hs := h.sy
      rw [hy'] at hs
      have hs := List.pairwise_cons.1 hs
      intro c hc
      rcases List.mem_cons.1 hc with e | hc
      · rw [e]; exact hb
      · exact R.trans K hb (hs.1 c hc)
  refine ⟨srt_snoc K h.so (fun a ha => h.ox a ha t (by simp)), hx.2, h.sy, ?_, ?_, fun a ha b hb => h.lt a (by simp [ha]) b hb⟩
  · intro a ha b hb
    rcases List.mem_append.1 ha with ha | ha
    · exact h.ox a ha b (by simp [hb])
    · rw [List.mem_singleton.1 ha]; exact hx.1 b hb
  · intro a ha b hb
    rcases List.mem_append.1 ha with ha | ha
    · exact h.oy a ha b hb
    · rw [List.mem_singleton.1 ha]; exact ht b hb

/-- from the right row -/
theorem Mrg.right {o x y : List Nat} {t : Nat} (h : Mrg K o x (t :: y)) (hx : ∀ a r, x = a :: r → cmp (K t) (K a) < 0) : Mrg K (o ++ [t]) x y := by
  have hy := List.pairwise_cons.1 h.sy
  have ht : ∀ a ∈ x, R K t a := by
    cases hx' : x with
    | nil => simp
    | cons a r =>
      have ha : R K t a := Or.inl (hx a r hx')
      have hs := h.sx
      rw [hx'] at hs
      have hs := List.pairwise_cons.1 hs
      intro c hc
      rcases List.mem_cons.1 hc with e | hc
      · rw [e]; exact ha
      · exact R.trans K ha (hs.1 c hc)
  refine ⟨srt_snoc K h.so (fun a ha => h.oy a ha t (by simp)), h.sx, hy.2, ?_, ?_, fun a ha b hb => h.lt a ha b (by simp [hb])⟩
  · intro a ha b hb
    rcases List.mem_append.1 ha with ha | ha
    · exact h.ox a ha b hb
    · rw [List.mem_singleton.1 ha]; exact ht b hb
  · intro a ha b hb
    rcases List.mem_append.1 ha with ha | ha
    · exact h.oy a ha b (by simp [hb])
    · rw [List.mem_singleton.1 ha]; exact hy.1 b hb

theorem Mrg.start {x y : List Nat} (hx : Srt K x) (hy : Srt K y) (h : ∀ a ∈ x, ∀ b ∈ y, a < b) : Mrg K [] x y :=
  ⟨List.Pairwise.nil, hx, hy, by simp, by simp, h⟩
end

end Go.Proofs.Qxb6500664a.Ord
