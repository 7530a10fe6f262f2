/-
  ReachCoversTheText: the counts, a map[Addr]int in memory.
-/
import Derived.Test.Qxb6500653aMapSet
namespace Go.Proofs.Qxb6500653a
open Go.RowKit Go.Maps Go.WideShapes Go.ChangeMaps

structure CtOk (es : List MapEntry) (clock : Nat) (N : Nat → Nat → Nat) : Prop where
  each : ∀ e ∈ es, ∃ r c, r < 64 ∧ c < 26 ∧ e.key = addrV r c ∧ e.val = .int .i64 (N r c : Int)
  apart : (es.map (·.key)).Nodup
  zero : ∀ r c, r < 64 → c < 26 → addrV r c ∉ es.map (·.key) → N r c = 0
  born : ∀ e ∈ es, e.born < clock
  once : (es.map (·.born)).Nodup
def CtAt (w : World) (mb : Nat) (N : Nat → Nat → Nat) : Prop := ∃ es clock, w.heap[mb]? = some (.map es.toArray clock) ∧ CtOk es clock N
theorem CtAt.lt {w : World} {mb : Nat} {N : Nat → Nat → Nat} (h : CtAt w mb N) : mb < w.heap.size := by
  obtain ⟨es, clock, h1, _⟩ := h
  rcases Nat.lt_or_ge mb w.heap.size with h' | h'
  · exact h'
  · rw [Array.getElem?_eq_none h'] at h1; simp at h1
theorem CtAt.kp {X : Nat → Prop} {w w' : World} {mb : Nat} {N : Nat → Nat → Nat} (h : CtAt w mb N) (k : Kp X w w') (hx : ¬ X mb) : CtAt w' mb N := by
  have hl := h.lt
  obtain ⟨es, clock, h1, h2⟩ := h
  exact ⟨es, clock, (k.block mb hl hx).trans h1, h2⟩
theorem CtAt.same {w : World} {mb : Nat} {N N' : Nat → Nat → Nat} (h : CtAt w mb N) (e : ∀ r c, N r c = N' r c) : CtAt w mb N' := by
  have : N = N' := funext fun r => funext fun c => e r c
  rw [← this]; exact h
theorem CtAt.new (w : World) : CtAt (w.alloc (.map #[] 0)) w.heap.size (fun _ _ => 0) :=
  ⟨[], 0, heap_alloc_new _ _, ⟨fun e he => (by cases he), List.nodup_nil, fun _ _ _ _ _ => rfl, fun e he => (by cases he), List.nodup_nil⟩⟩
theorem CtOk.keys {es : List MapEntry} {clock : Nat} {N : Nat → Nat → Nat} (h : CtOk es clock N) : ∀ e ∈ es, ∃ l, keyOf Try.prog 31 e.key = some l := fun e he => by
  obtain ⟨r, c, h1, h2, h3, _⟩ := h.each e he
  rw [h3]; exact keyOf_addr r c h1 h2
theorem CtOk.val {es : List MapEntry} {clock : Nat} {N : Nat → Nat → Nat} (h : CtOk es clock N) {e : MapEntry} (he : e ∈ es) {r c : Nat} (hk : e.key = addrV r c) : e.val = .int .i64 (N r c : Int) := by
  obtain ⟨r', c', _, _, h3, h4⟩ := h.each e he
  obtain ⟨rfl, rfl⟩ := addrV_inj (h3.symm.trans hk)
  exact h4
theorem CtAt.look {w : World} {mb : Nat} {N : Nat → Nat → Nat} (h : CtAt w mb N) {r c : Nat} (hr : r < 64) (hc : c < 26) :
    (Instr.lookup 77 (.map (some mb)) (addrV r c) false).run Try.prog w = .ok (.int .i64 (N r c : Int)) w := by
  obtain ⟨es, clock, hb, ho⟩ := h
  obtain ⟨l, hl⟩ := keyOf_addr r c hr hc
  rcases law31.find w hl es ho.keys with ⟨h1, h2⟩ | ⟨j, e, h1, h2, h3⟩
  · have hz : N r c = 0 := ho.zero r c hr hc (fun hm => by
      obtain ⟨e, he, hk⟩ := List.mem_map.1 hm
      exact h2 e he hk)
    rw [hz]
    simp [Instr.lookup, run_underlying Try.underlying77, MapKept.run_getObj_map hb, law31.check w _ hl, h1, Result.andThen]
  · have he : e ∈ es := List.mem_of_getElem? h2
    rw [← ho.val he h3]
    simp [Instr.lookup, run_underlying Try.underlying77, MapKept.run_getObj_map hb, law31.check w _ hl, h1, Result.andThen]
theorem ct_entry {es : List MapEntry} {clock : Nat} {N : Nat → Nat → Nat} (ho : CtOk es clock N) {r c : Nat} (hr : r < 64) (hc : c < 26) :
    ∃ (es1 : List MapEntry) (clock1 : Nat) (e1 : MapEntry), CtOk es1 clock1 N ∧ e1 ∈ es1 ∧ e1.key = addrV r c ∧ ∀ (w : World) (mb : Nat), w.heap[mb]? = some (.map es.toArray clock) →
      (Instr.mapEntry 77 (.map (some mb)) (addrV r c)).run Try.prog w = .ok (.tuple #[.int .i64 (N r c : Int), .int .i64 (e1.born : Int)]) (setBlock w mb (.map es1.toArray clock1)) := by
  obtain ⟨l, hl⟩ := keyOf_addr r c hr hc
  by_cases hex : ∃ e ∈ es, e.key = addrV r c
  · obtain ⟨e, he, hk⟩ := hex
    refine ⟨es, clock, e, ho, he, hk, fun w mb hb => ?_⟩
    rcases law31.find w hl es ho.keys with ⟨_, h2⟩ | ⟨j, e', h1, h2, h3⟩
    · exact absurd hk (h2 e he)
    · have hee : e' = e := by
        obtain ⟨i, hi, rfl⟩ := List.getElem_of_mem he
        obtain ⟨hlt, rfl⟩ := List.getElem?_eq_some_iff.1 h2
        have : j = i := by
          have hn := ho.apart
          refine (List.getElem_inj (i := j) (j := i) (h₀ := by simpa using hlt) (h₁ := by simpa using hi) hn).1 ?_
          simp only [List.getElem_map]
          rw [h3, hk]
        subst this; rfl
      subst hee
      have hm : es.modify j (fun x => { x with key := addrV r c }) = es := by
        obtain ⟨hlt, rfl⟩ := List.getElem?_eq_some_iff.1 h2
        refine List.ext_getElem? fun i => ?_
        rw [List.getElem?_modify]
        by_cases hij : j = i
        · subst hij
          rw [List.getElem?_eq_getElem hlt]
          simp [← h3]
        · simp [hij]
      have hv := ho.val he hk
      simp [Instr.mapEntry, run_underlying Try.underlying77, MapKept.run_getObj_map hb, law31.check w _ hl, h1, h2, h3, law31.stays w hl, MapKept.run_setObj_map _ hb, Result.andThen, setBlock, hv, goInt, hm]
  · have hno : ∀ e ∈ es, e.key ≠ addrV r c := fun e he hk => hex ⟨e, he, hk⟩
    have hnm : addrV r c ∉ es.map (·.key) := fun hm => by
      obtain ⟨e, he, hk⟩ := List.mem_map.1 hm
      exact hno e he hk
    have hz : N r c = 0 := ho.zero r c hr hc hnm
    refine ⟨es ++ [{ key := addrV r c, val := .int .i64 0, born := clock : MapEntry }], clock + 1, { key := addrV r c, val := .int .i64 0, born := clock : MapEntry }, ⟨?_, ?_, ?_, ?_, ?_⟩, by simp, rfl, fun w mb hb => ?_⟩
    · intro e he
      rcases List.mem_append.1 he with he | he
      · exact ho.each e he
      · simp only [List.mem_singleton] at he
        subst he
        exact ⟨r, c, hr, hc, rfl, by rw [hz]; rfl⟩
    · rw [List.map_append]
      refine List.nodup_append.2 ⟨ho.apart, by simp, ?_⟩
      intro a ha b hb
      simp only [List.map_cons, List.map_nil, List.mem_singleton] at hb
      subst hb
      exact fun e => hnm (e ▸ ha)
    · intro r' c' h1 h2 h3
      rw [List.map_append] at h3
      exact ho.zero r' c' h1 h2 (fun h => h3 (List.mem_append.2 (Or.inl h)))
    · intro e he
      rcases List.mem_append.1 he with he | he
      · have := ho.born e he; omega
      · simp only [List.mem_singleton] at he
        subst he
        exact Nat.lt_succ_self _
    · rw [List.map_append]
      refine List.nodup_append.2 ⟨ho.once, by simp, ?_⟩
      intro a ha b hb
      obtain ⟨x, hx, rfl⟩ := List.mem_map.1 ha
      simp only [List.map_cons, List.map_nil, List.mem_singleton] at hb
      subst hb
      have := ho.born x hx
      omega
    · rcases law31.find w hl es ho.keys with ⟨h1, _⟩ | ⟨j, e', _, h2, h3⟩
      · rw [hz]
        simp [Instr.mapEntry, run_underlying Try.underlying77, MapKept.run_getObj_map hb, law31.check w _ hl, h1, MapKept.run_setObj_map _ hb, Result.andThen, setBlock, goInt]
      · exact absurd h3 (hno e' (List.mem_of_getElem? h2))
def bump (N : Nat → Nat → Nat) (r c : Nat) : Nat → Nat → Nat := fun r' c' => if r' = r ∧ c' = c then N r c + 1 else N r' c'
theorem ct_store {es : List MapEntry} {clock : Nat} {N : Nat → Nat → Nat} (ho : CtOk es clock N) {r c : Nat} {e1 : MapEntry} (he : e1 ∈ es) (hk : e1.key = addrV r c) :
    ∃ es2 : List MapEntry, CtOk es2 clock (bump N r c) ∧ ∀ (w : World) (mb : Nat), w.heap[mb]? = some (.map es.toArray clock) →
      (Instr.entryStore 77 (.map (some mb)) (.int .i64 (e1.born : Int)) (.int .i64 ((N r c : Int) + 1))).run Try.prog w = .ok () (setBlock w mb (.map es2.toArray clock)) := by
  obtain ⟨i, hi, rfl⟩ := List.getElem_of_mem he
  obtain ⟨e1, he1⟩ : ∃ e1, e1 = es[i] := ⟨_, rfl⟩
  have hkey : (es.set i { e1 with val := .int .i64 ((N r c : Int) + 1) }).map (·.key) = es.map (·.key) := by
    rw [List.map_set]
    refine List.ext_getElem? fun j => ?_
    rw [List.getElem?_set]
    by_cases hij : i = j
    · subst hij
      simp [hi, he1]
    · simp [hij]
  have hborn : (es.set i { e1 with val := .int .i64 ((N r c : Int) + 1) }).map (·.born) = es.map (·.born) := by
    rw [List.map_set]
    refine List.ext_getElem? fun j => ?_
    rw [List.getElem?_set]
    by_cases hij : i = j
    · subst hij
      simp [hi, he1]
    · simp [hij]
  have hr : r < 64 ∧ c < 26 := by
    obtain ⟨r', c', h1, h2, h3, _⟩ := ho.each _ he
    obtain ⟨rfl, rfl⟩ := addrV_inj (h3.symm.trans hk)
    exact ⟨h1, h2⟩
  refine ⟨es.set i { e1 with val := .int .i64 ((N r c : Int) + 1) }, ⟨fun e hm => ?_, by rw [hkey]; exact ho.apart, fun r' c' h1 h2 h3 => ?_, fun e hm => ?_, by rw [hborn]; exact ho.once⟩, fun w mb hb => ?_⟩
  · obtain ⟨j, hj, rfl⟩ := List.getElem_of_mem hm
    have hj' : j < es.length := by simpa using hj
    by_cases hij : i = j
    · subst hij
      rw [List.getElem_set_self]
      refine ⟨r, c, hr.1, hr.2, by rw [he1]; exact hk, ?_⟩
      show Value.int .i64 _ = _
      unfold bump
      rw [if_pos ⟨rfl, rfl⟩]
      rfl
    · rw [List.getElem_set_ne hij]
      obtain ⟨r', c', h1, h2, h3, h4⟩ := ho.each _ (List.getElem_mem hj')
      refine ⟨r', c', h1, h2, h3, ?_⟩
      unfold bump
      rw [if_neg (fun hh => ?_)]
      · exact h4
      · obtain ⟨rfl, rfl⟩ := hh
        have := (List.getElem_inj (i := j) (j := i) (h₀ := by simpa using hj') (h₁ := by simpa using hi) ho.apart).1 (by simp only [List.getElem_map]; rw [h3, hk])
        exact hij this.symm
  · rw [hkey] at h3
    have h0 := ho.zero r' c' h1 h2 h3
    unfold bump
    rw [if_neg (fun hh => ?_)]
    · exact h0
    · obtain ⟨rfl, rfl⟩ := hh
      exact h3 (List.mem_map.2 ⟨_, he, hk⟩)
  · have hmb : e.born ∈ es.map (·.born) := by rw [← hborn]; exact List.mem_map.2 ⟨e, hm, rfl⟩
    obtain ⟨x, hx, hxb⟩ := List.mem_map.1 hmb
    have := ho.born x hx
    omega
  · have hfind : es.toArray.findIdx? (fun e => (e.born : Int) == (es[i].born : Int)) = some i := by
      rw [List.findIdx?_toArray, List.findIdx?_eq_some_iff_getElem]
      refine ⟨hi, by simp, fun j hj => ?_⟩
      have hne : es[j].born ≠ es[i].born := fun hh => by
        have := (List.getElem_inj (i := j) (j := i) (h₀ := by simp; omega) (h₁ := by simpa using hi) ho.once).1 (by simpa using hh)
        omega
      simp
      omega
    have hmod : es.modify i (fun e => { e with val := .int .i64 ((N r c : Int) + 1) }) = es.set i { e1 with val := .int .i64 ((N r c : Int) + 1) } := by
      refine List.ext_getElem? fun j => ?_
      rw [List.getElem?_modify, List.getElem?_set]
      by_cases hij : i = j
      · subst hij
        simp [hi, he1]
      · simp [hij]
    simp [Instr.entryStore, MapKept.run_getObj_map hb, asInt, asIntOf, hfind, MapKept.run_setObj_map _ hb, Result.andThen, setBlock, hmod]
end Go.Proofs.Qxb6500653a
