/-
  The sheet's map, written: delete and a store at a key that is not there.
-/
import Derived.Test.Qxb6500653aSheetSet
import Derived.Maps.RangeWalk
namespace Go.Proofs.Qxb6500653a
open Go.RowKit Go.Maps Go.WideShapes Go.ChangeMaps

theorem run_drop {es : List MapEntry} (ho : EsOk es) {r c : Nat} (hr : r < 64) (hc : c < 26) :
    ∃ es' : List MapEntry, es'.Sublist es ∧ (∀ e ∈ es', e.key ≠ addrV r c) ∧ ∀ (w : World) (pb clock ty : Nat), w.heap[pb]? = some (.map es.toArray clock) →
      (Builtin.delete_ #[86, 31] ty #[.map (some pb), addrV r c]).run Try.prog w = .ok (.tuple #[]) (setBlock w pb (.map es'.toArray clock)) := by
  obtain ⟨l, hl⟩ := keyOf_addr r c hr hc
  by_cases h : ∃ e ∈ es, e.key = addrV r c
  · obtain ⟨e, he, hk⟩ := h
    obtain ⟨j, hj, hje⟩ := List.getElem_of_mem he
    have hp := List.pairwise_iff_getElem.1 ho.apart
    have huniq : ∀ i (hi : i < es.length), es[i].key = addrV r c → i = j := fun i hi hik => by
      rcases Nat.lt_trichotomy i j with h | h | h
      · exact absurd (hik.trans (by rw [hje, hk])) (hp i j hi hj h)
      · exact h
      · exact absurd ((show es[j].key = addrV r c by rw [hje, hk]).trans hik.symm) (hp j i hj hi h)
    refine ⟨es.eraseIdx j, List.eraseIdx_sublist _ _, fun x hx hxk => ?_, fun w pb clock ty hb => ?_⟩
    · rw [List.mem_eraseIdx_iff_getElem?] at hx
      obtain ⟨i, hne, hi⟩ := hx
      obtain ⟨hlt, rfl⟩ := List.getElem?_eq_some_iff.1 hi
      exact hne (huniq i hlt hxk)
    · rcases law31.find w hl es ho.keys with ⟨_, h2⟩ | ⟨i, e', h1, h2, h3⟩
      · exact absurd hk (h2 e he)
      · obtain ⟨hlt, rfl⟩ := List.getElem?_eq_some_iff.1 h2
        obtain rfl := huniq i hlt h3
        simp [Builtin.delete_, run_underlying Try.underlying86, MapKept.run_getObj_map hb, law31.check w _ hl, h1, MapKept.run_setObj_map _ hb, Result.andThen, setBlock]
  · refine ⟨es, List.Sublist.refl _, fun e he hk => h ⟨e, he, hk⟩, fun w pb clock ty hb => ?_⟩
    rcases law31.find w hl es ho.keys with ⟨h1, _⟩ | ⟨i, e', _, h2, h3⟩
    · simp [Builtin.delete_, run_underlying Try.underlying86, MapKept.run_getObj_map hb, law31.check w _ hl, h1, MapKept.run_setObj_map _ hb, Result.andThen, setBlock]
    · exact absurd ⟨e', List.mem_of_getElem? h2, h3⟩ h

theorem run_put {es : List MapEntry} (ho : EsOk es) {r c : Nat} (hr : r < 64) (hc : c < 26) (hn : ∀ e ∈ es, e.key ≠ addrV r c) (v : Value) (w : World) (pb clock : Nat) (hb : w.heap[pb]? = some (.map es.toArray clock)) :
    (Instr.mapUpdate 86 (.map (some pb)) (addrV r c) v).run Try.prog w = .ok () (setBlock w pb (.map (es ++ [{ key := addrV r c, val := v, born := clock : MapEntry }]).toArray (clock + 1))) := by
  obtain ⟨l, hl⟩ := keyOf_addr r c hr hc
  rcases law31.find w hl es ho.keys with ⟨h1, _⟩ | ⟨i, e', _, h2, h3⟩
  · simp [Instr.mapUpdate, run_underlying Try.underlying86, MapKept.run_getObj_map hb, law31.check w _ hl, h1, MapKept.run_setObj_map _ hb, Result.andThen, setBlock]
  · exact absurd h3 (hn e' (List.mem_of_getElem? h2))

theorem Kp.setB {X : Nat → Prop} {w w' : World} (h : Kp X w w') {b : Nat} (hb : b < w.heap.size → X b) (o : Obj) : Kp X w (setBlock w' b o) :=
  ⟨h.os, h.tape, h.output, by show _ ≤ (w'.heap.setIfInBounds b o).size; rw [Array.size_setIfInBounds]; exact h.size, fun k hk hx => by
    show (w'.heap.setIfInBounds b o)[k]? = _
    rw [Array.getElem?_setIfInBounds_ne (fun e => hx (by subst e; exact hb hk))]
    exact h.block k hk hx⟩
theorem SheetAt.setMap {w : World} {sb : Nat} {S : Sh} (h : SheetAt w sb S) (es' : List MapEntry) (clock' : Nat) : SheetAt (setBlock w S.pb (.map es'.toArray clock')) sb { S with es := es' } := by
  have k : Kp (one S.pb) w (setBlock w S.pb (.map es'.toArray clock')) := (Kp.refl (one S.pb) w).setB (b := S.pb) (fun _ => rfl) _
  have hn : ¬ one S.pb sb := fun e => h.pb_ne (Eq.symm e)
  have hm : ∀ g, S.mv.ownBlock = some g → g ≠ S.pb := fun g hg e => by
    obtain ⟨i, hi⟩ := h.head hg
    obtain ⟨c, hc⟩ := h.map
    rw [e] at hi
    simp [World.cell?, hc] at hi
  refine ⟨fun c hc => k.cell (h.wd c hc) hn, fun c hc => k.cell (h.ht c hc) hn, fun c hc => k.cell (h.hr c hc) hn, fun c hc => k.cell (h.hc c hc) hn, k.cell h.mg hn, ?_, k.cell h.mp hn, ?_, k.cell h.st hn, fun o => (k.frozen (p := ⟨sb, o, none⟩) h.lt hn).trans (h.free o), h.mnil⟩
  · exact h.mrow.kept k.grown (by
      cases hb : S.mv.ownBlock with
      | none => exact Or.inl rfl
      | some b => exact Or.inr fun e => hm b hb (Option.some.inj e))
  · refine ⟨clock', ?_⟩
    show (w.heap.setIfInBounds S.pb _)[S.pb]? = _
    rw [Array.getElem?_setIfInBounds_self_of_lt h.pb_lt]
theorem EsOk.sub {es es' : List MapEntry} (h : EsOk es) (hs : es'.Sublist es) : EsOk es' := ⟨fun e he => h.each e (hs.subset he), h.apart.sublist hs⟩
theorem EsOk.push {es : List MapEntry} (h : EsOk es) {r c : Nat} {s : Shn} (hr : r < 64) (hc : c < 26) (ht : s.text.size ≤ 65536) (ha : s.al ≤ 3) (hn : ∀ e ∈ es, e.key ≠ addrV r c) (clock : Nat) : EsOk (es ++ [{ key := addrV r c, val := s.v, born := clock : MapEntry }]) := by
  refine ⟨fun e he => ?_, List.pairwise_append.2 ⟨h.apart, by simp, fun a ha b hb => ?_⟩⟩
  · rcases List.mem_append.1 he with he | he
    · exact h.each e he
    · simp only [List.mem_singleton] at he
      subst he
      exact ⟨r, c, s, rfl, rfl, hr, hc, ht, ha⟩
  · simp only [List.mem_singleton] at hb
    subst hb
    exact hn a ha
theorem setBlock_get {w : World} {b : Nat} (hb : b < w.heap.size) (o : Obj) : (setBlock w b o).heap[b]? = some o := by
  show (w.heap.setIfInBounds b o)[b]? = _
  rw [Array.getElem?_setIfInBounds_self_of_lt hb]
end Go.Proofs.Qxb6500653a
