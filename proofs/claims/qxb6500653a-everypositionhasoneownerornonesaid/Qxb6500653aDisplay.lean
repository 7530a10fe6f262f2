/-
  Display (19): the map of what the cells show.
-/
import Derived.Test.Qxb6500653aMerge
import Derived.Maps.OwnSet
import Derived.DeepKeys4
namespace Go.Proofs.Qxb6500653a
open Go.RowKit Go.Maps Go.WideShapes

theorem laidOut : laidOutB Try.prog = true := by kernel_rfl
theorem law31 : Keyed Try.prog 31 := Keyed.of_law (deep_law_laid laidOut (m := 5) (by omega) (k := 31) (by decide +kernel) (by kernel_rfl) (by kernel_rfl))
theorem keyOf_all : ∀ r, r < 64 → ∀ c, c < 26 → (keyOf Try.prog 31 (addrV r c)).isSome = true := by decide +kernel
theorem keyOf_addr (r c : Nat) (hr : r < 64) (hc : c < 26) : ∃ l, keyOf Try.prog 31 (addrV r c) = some l := Option.isSome_iff_exists.1 (keyOf_all r hr c hc)
theorem addrV_inj {r c r' c' : Nat} (h : addrV r c = addrV r' c') : r = r' ∧ c = c' := by
  simp only [addrV, Value.agg.injEq, Array.mk.injEq, List.cons.injEq, Value.int.injEq] at h
  omega

theorem Shn.v_inj {s t : Shn} (h : s.v = t.v) : s = t := by
  obtain ⟨a, b, c⟩ := s
  obtain ⟨a', b', c'⟩ := t
  simp only [Shn.v, Value.agg.injEq, Array.mk.injEq, List.cons.injEq, Value.int.injEq, Value.string.injEq, Value.bool.injEq] at h
  obtain ⟨rfl, rfl, h3, _⟩ := h
  have : c = c' := by omega
  rw [this]

/-- what a cell shows, by the map's entries -/
def Shows (es : List MapEntry) (r c : Nat) (s : Shn) : Prop := (∃ e ∈ es, e.key = addrV r c ∧ e.val = s.v) ∨ ((∀ e ∈ es, e.key ≠ addrV r c) ∧ s = Shn.empty)
open Classical in
noncomputable def shown (es : List MapEntry) (r c : Nat) : Shn := if h : ∃ s, Shows es r c s then h.choose else Shn.empty
theorem Shows.one {es : List MapEntry} (ho : EsOk es) {r c : Nat} {s t : Shn} (hs : Shows es r c s) (ht : Shows es r c t) : s = t := by
  rcases hs with ⟨e, he, hk, hv⟩ | ⟨hn, rfl⟩
  · rcases ht with ⟨e', he', hk', hv'⟩ | ⟨hn, rfl⟩
    · have : e = e' := by
        obtain ⟨i, hi, rfl⟩ := List.getElem_of_mem he
        obtain ⟨j, hj, rfl⟩ := List.getElem_of_mem he'
        have hp := List.pairwise_iff_getElem.1 ho.apart
        rcases Nat.lt_trichotomy i j with h | h | h
        · exact absurd (hk.trans hk'.symm) (hp i j hi hj h)
        · subst h; rfl
        · exact absurd (hk'.trans hk.symm) (hp j i hj hi h)
      subst this
      exact Shn.v_inj (hv.symm.trans hv')
    · exact absurd hk (hn e he)
  · rcases ht with ⟨e', he', hk', hv'⟩ | ⟨_, rfl⟩
    · exact absurd hk' (hn e' he')
    · rfl
theorem Shows.eq {es : List MapEntry} (ho : EsOk es) {r c : Nat} {s : Shn} (hs : Shows es r c s) : shown es r c = s := by
  have h : ∃ s, Shows es r c s := ⟨s, hs⟩
  rw [shown, dif_pos h]
  exact Shows.one ho h.choose_spec hs
theorem shows_some {es : List MapEntry} (ho : EsOk es) (r c : Nat) : Shows es r c (shown es r c) := by
  by_cases h : ∃ e ∈ es, e.key = addrV r c
  · obtain ⟨e, he, hk⟩ := h
    obtain ⟨_, _, s, hs⟩ := ho.each e he
    have : Shows es r c s := Or.inl ⟨e, he, hk, hs.val⟩
    rw [this.eq ho]; exact this
  · have : Shows es r c Shn.empty := Or.inr ⟨fun e he hk => h ⟨e, he, hk⟩, rfl⟩
    rw [this.eq ho]; exact this
theorem shown_small {es : List MapEntry} (ho : EsOk es) (r c : Nat) : (shown es r c).text.size ≤ 65536 ∧ (shown es r c).al ≤ 3 := by
  rcases shows_some ho r c with ⟨e, he, _, hv⟩ | ⟨_, h⟩
  · obtain ⟨_, _, s, hs⟩ := ho.each e he
    have : shown es r c = s := Shn.v_inj (hv.symm.trans hs.val)
    rw [this]; exact ⟨hs.text, hs.al⟩
  · rw [h]; exact ⟨Nat.zero_le _, Nat.zero_le _⟩

theorem EsOk.keys {es : List MapEntry} (ho : EsOk es) : ∀ e ∈ es, ∃ l, keyOf Try.prog 31 e.key = some l := fun e he => by
  obtain ⟨r, c, s, h⟩ := ho.each e he
  rw [h.key]; exact keyOf_addr r c h.r h.c
theorem run_look {w : World} {pb clock : Nat} {es : List MapEntry} (hb : w.heap[pb]? = some (.map es.toArray clock)) (ho : EsOk es) {r c : Nat} (hr : r < 64) (hc : c < 26) :
    (Instr.lookup 86 (.map (some pb)) (addrV r c) false).run Try.prog w = .ok (shown es r c).v w := by
  obtain ⟨l, hl⟩ := keyOf_addr r c hr hc
  rcases law31.find w hl es ho.keys with ⟨h1, h2⟩ | ⟨j, e, h1, h2, h3⟩
  · have hs : Shows es r c Shn.empty := Or.inr ⟨h2, rfl⟩
    rw [hs.eq ho]
    simp [Instr.lookup, run_underlying Try.underlying86, MapKept.run_getObj_map hb, law31.check w _ hl, h1, Result.andThen]
    rfl
  · have he : e ∈ es := List.mem_of_getElem? h2
    obtain ⟨_, _, s, hs0⟩ := ho.each e he
    have hs : Shows es r c s := Or.inl ⟨e, he, h3, hs0.val⟩
    rw [hs.eq ho, ← hs0.val]
    simp [Instr.lookup, run_underlying Try.underlying86, MapKept.run_getObj_map hb, law31.check w _ hl, h1, Result.andThen]

set_option maxHeartbeats 1000000 in
theorem display_at (w : World) (sb : Nat) (S : Sh) (h : SheetAt w sb S) (hok : S.Ok) (r c : Nat) (hr : r < 64) (hc : c < 26) :
    Calls Try.prog 19 #[shP sb, addrV r c] w fun e w' => e = .returned (shown S.es r c).v ∧ Kp no w w' := by
  have hm := h.mp
  have hlt := h.lt
  have hlt2 : sb < w.heap.size + 1 := by omega
  obtain ⟨clock, hb⟩ := h.map
  have hpb := h.pb_lt
  obtain ⟨w2, hw2⟩ : ∃ w2, w2 = (w.alloc (.cells #[.int .i64 (r : Int), .int .i64 (c : Int)] 31)).alloc (.cells #[.string ByteArray.empty, .bool false, .int .i64 0] 70) := ⟨_, rfl⟩
  have HK2 : Kp no w w2 := by rw [hw2]; exact ((Kp.refl _ _).alloc _).alloc _
  have hlk0 := run_look (w := w2) (pb := S.pb) (clock := clock) (by rw [HK2.block _ hpb id]; exact hb) hok.es hr hc
  have hlk := run_look (w := w2.drew) (pb := S.pb) (clock := clock) (by show w2.heap[S.pb]? = _; rw [HK2.block _ hpb id]; exact hb) hok.es hr hc
  obtain ⟨b3, hb3⟩ : ∃ b3, b3 = w.heap.size := ⟨_, rfl⟩
  have hm2 := HK2.cell hm id
  obtain ⟨a1, a2, z1, z2, z3, zf⟩ : w2.cell? ⟨b3, 0, none⟩ = some (.int .i64 (r : Int)) ∧ w2.cell? ⟨b3, 1, none⟩ = some (.int .i64 (c : Int)) ∧ w2.cell? ⟨b3 + 1, 0, none⟩ = some (.string ByteArray.empty) ∧ w2.cell? ⟨b3 + 1, 1, none⟩ = some (.bool false) ∧ w2.cell? ⟨b3 + 1, 2, none⟩ = some (.int .i64 0) ∧ (∀ o, w2.frozen? ⟨b3 + 1, o, none⟩ = false) := by
    subst hw2 hb3
    refine ⟨by simp, by simp, by simp, by simp, by simp, fun o => by simp⟩
  have f0 := zf 0
  have f1 := zf 1
  have f2 := zf 2
  have HNB : Hid (¬ b3 + 1 < w.heap.size) := by show ¬ _; omega
  unfold addrV at hlk hlk0
  unfold shP addrV
  generalize shown S.es r c = sn at *
  unfold Shn.v at hlk hlk0
  clear h hok hb zf
  go_enter Try.func19, Try.ntmps19
  go_wp2_with fail
  rw [← hb3]
  change Code.wp _ _ _ _ ((w.alloc (.cells #[.int .i64 (r : Int), .int .i64 (c : Int)] 31)).alloc (.cells #[.string ByteArray.empty, .bool false, .int .i64 0] 70))
  rw [← hw2]
  clear hw2 hb3 hm
  go_region
  go_wp2_with fail
  obtain ⟨q0, q1, q2⟩ := put3_at z1 z2 z3 (.string sn.text) (.bool sn.num) (.int .i64 (sn.al : Int))
  have hK := HK2.put3 (b := b3 + 1) (fun h => absurd h HNB.out) (.string sn.text) (.bool sn.num) (.int .i64 (sn.al : Int))
  change bodyPost _ _ _ _ _ (put3 w2 (b3 + 1) (.string sn.text) (.bool sn.num) (.int .i64 (sn.al : Int))).drew
  generalize put3 w2 (b3 + 1) (.string sn.text) (.bool sn.num) (.int .i64 (sn.al : Int)) = w9 at *
  exact bodyPost_ret (v := sn.v) (by simp [results, Try.results19, go_sem, q0, q1, q2]; rfl) rfl ⟨rfl, hK.drew⟩
end Go.Proofs.Qxb6500653a
