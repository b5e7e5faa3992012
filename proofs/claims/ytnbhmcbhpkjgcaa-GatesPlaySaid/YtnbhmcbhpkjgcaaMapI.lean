/- Maps from whole numbers to pointers: what is in them; looked up, added to, struck out of. -/
import Derived.Test.YtnbhmcbhpkjgcaaOnly
import Derived.Maps.RangeRun
import Derived.ChangeMaps5
namespace Go.Proofs.Ytnbhmcbhpkjgcaa
open Go.RowKit
open Go.ChangeMaps (setBlock heap_setBlock_same heap_setBlock_other)

/-- The entries of a map: keys, and the blocks that they lead to. -/
def ents (E : List MapEntry) (ks : List (Int × Nat)) : Prop := E.map (fun e => (e.key, e.val)) = ks.map fun x => (Value.int .i64 x.1, Value.pointer (some ⟨x.2, 0, none⟩))

theorem ents_nil : ents [] [] := rfl
theorem ents_cons {e : MapEntry} {E : List MapEntry} {ks : List (Int × Nat)} (h : ents (e :: E) ks) : ∃ k b ks', ks = (k, b) :: ks' ∧ e.key = .int .i64 k ∧ e.val = .pointer (some ⟨b, 0, none⟩) ∧ ents E ks' := by
  match ks, h with
  | [], h => simp [ents] at h
  | (k, b) :: ks', h =>
    simp [ents] at h
    exact ⟨k, b, ks', rfl, h.1.1, h.1.2, h.2⟩
theorem ents_length {E : List MapEntry} {ks : List (Int × Nat)} (h : ents E ks) : E.length = ks.length := by
  have := congrArg List.length h
  simpa using this
theorem ents_get {E : List MapEntry} {ks : List (Int × Nat)} (h : ents E ks) {j : Nat} {e : MapEntry} (hj : E[j]? = some e) : ∃ k b, ks[j]? = some (k, b) ∧ e.key = .int .i64 k ∧ e.val = .pointer (some ⟨b, 0, none⟩) := by
  have h1 := congrArg (fun l => l[j]?) h
  simp [hj] at h1
  cases hk : ks[j]? with
  | none => rw [hk] at h1; simp at h1
  | some x =>
    rw [hk] at h1
    simp at h1
    exact ⟨x.1, x.2, rfl, h1.1, h1.2⟩

/-- Which block a number leads to. -/
def klook (ks : List (Int × Nat)) (k : Int) : Option Nat := (ks.find? (fun x => x.1 == k)).map (·.2)

theorem klook_cons (x : Int × Nat) (ks : List (Int × Nat)) (k : Int) : klook (x :: ks) k = if x.1 = k then some x.2 else klook ks k := by
  unfold klook
  by_cases h : x.1 = k
  · simp [h]
  · simp [h]

theorem findNow_ints (k : Int) : ∀ (E : List MapEntry) (ks : List (Int × Nat)) (i : Nat), ents E ks →
    (klook ks k = none ∧ Instr.findNow (.int .i64) (.int .i64 k) E i = some none) ∨
    ∃ j b, klook ks k = some b ∧ ks[j]? = some (k, b) ∧ Instr.findNow (.int .i64) (.int .i64 k) E i = some (some (i + j, .pointer (some ⟨b, 0, none⟩)))
  | [], ks, i, h => by
    have : ks = [] := List.eq_nil_of_length_eq_zero (ents_length h).symm
    subst this
    exact .inl ⟨rfl, rfl⟩
  | e :: E, ks, i, h => by
    obtain ⟨x, b, ks', rfl, hk, hv, h'⟩ := ents_cons h
    by_cases hx : x = k
    · subst hx
      exact .inr ⟨0, b, by rw [klook_cons, if_pos rfl], rfl, by simp [Instr.findNow, Instr.sameNow, hk, hv]⟩
    · have hf : Instr.findNow (.int .i64) (.int .i64 k) (e :: E) i = Instr.findNow (.int .i64) (.int .i64 k) E (i + 1) := by
        have : (k == x) = false := by rw [beq_eq_false_iff_ne]; exact fun h => hx h.symm
        simp [Instr.findNow, Instr.sameNow, hk, this]
      rw [klook_cons, if_neg hx, hf]
      rcases findNow_ints k E ks' (i + 1) h' with ⟨h1, h2⟩ | ⟨j, c, h1, h2, h3⟩
      · exact .inl ⟨h1, h2⟩
      · exact .inr ⟨j + 1, c, h1, by simpa using h2, by rw [h3, show i + 1 + j = i + (j + 1) by omega]⟩

/-- A map's block. -/
structure MapB (w : World) (mb : Nat) (ks : List (Int × Nat)) : Prop where
  ex : ∃ (E : Array MapEntry) (clock : Nat), w.heap[mb]? = some (.map E clock) ∧ ents E.toList ks ∧ (∀ e ∈ E.toList, e.born < clock) ∧ (E.toList.map (·.born)).Nodup

theorem MapB.lt {w : World} {mb : Nat} {ks : List (Int × Nat)} (h : MapB w mb ks) : mb < w.heap.size := by
  obtain ⟨E, c, h1, _⟩ := h.ex
  rcases Nat.lt_or_ge mb w.heap.size with h' | h'
  · exact h'
  · simp [Array.getElem?_eq_none h'] at h1

theorem MapB.of_same {w w' : World} {mb : Nat} {ks : List (Int × Nat)} (h : MapB w mb ks) (hs : w'.heap[mb]? = w.heap[mb]?) : MapB w' mb ks := by
  obtain ⟨E, c, h1, h2⟩ := h.ex
  exact ⟨E, c, by rw [hs, h1], h2⟩

theorem MapB.new (w : World) : MapB (w.alloc (.map #[] 0)) w.heap.size [] :=
  ⟨#[], 0, heap_alloc_new w _, rfl, by simp, by simp⟩

section
variable {P : Program} {t kt et : TypeId}

theorem run_findKey_int (w : World) (hk : P.underlying kt = some (.int .i64)) (k : Int) (E : List MapEntry) (r : Option (Nat × Value)) (h : Instr.findNow (.int .i64) (.int .i64 k) E 0 = some r) :
    (Instr.findKey kt (.int .i64 k) E).run P w = .ok r w := by
  simp [Instr.findKey, run_underlying hk, h]

theorem run_checkKey_int (w : World) (hk : P.underlying kt = some (.int .i64)) (k : Int) (em : Bool) : (Instr.checkKey em 10000 kt (.int .i64 k)).run P w = .ok () w := by
  have key : ∀ n : Nat, (Instr.checkKey em (n + 1) kt (.int .i64 k)).run P w = .ok () w := fun n => by
    simp [Instr.checkKey, run_underlying hk]
  exact key 9999

/-- 'm[k]', of pointers. -/
theorem run_lookup_int (w : World) (ht : P.underlying t = some (.map kt et)) (hk : P.underlying kt = some (.int .i64)) (hz : (P.info? et).map (·.zero) = some (some (.pointer none))) {mb : Nat} {ks : List (Int × Nat)} (hm : MapB w mb ks) (k : Int) :
    (Instr.lookup t (.map (some mb)) (.int .i64 k) false).run P w = .ok (match klook ks k with | some b => .pointer (some ⟨b, 0, none⟩) | none => .pointer none) w := by
  obtain ⟨E, c, h1, h2, _⟩ := hm.ex
  obtain ⟨i, hi1, hi2⟩ := Option.map_eq_some_iff.1 hz
  rcases findNow_ints k E.toList ks 0 h2 with ⟨g1, g2⟩ | ⟨j, b, g1, g2, g3⟩
  · rw [g1]
    simp [Instr.lookup, run_underlying ht, MapKept.run_getObj_map (P := P) h1, run_checkKey_int w hk, run_findKey_int w hk k _ _ g2, zeroValue, typeInfo, hi1, hi2]
  · rw [g1]
    simp [Instr.lookup, run_underlying ht, MapKept.run_getObj_map (P := P) h1, run_checkKey_int w hk, run_findKey_int w hk k _ _ g3]

theorem Only.setBlock {w : World} {b : Nat} {E : Array MapEntry} {c : Nat} (hb : w.heap[b]? = some (.map E c)) (o : Obj) (fs : Nat → Prop) (hf : fs b) : Only w (Go.ChangeMaps.setBlock w b o) fs :=
  ⟨rfl, rfl, rfl, by simp [Go.ChangeMaps.setBlock], fun g _ hn => heap_setBlock_other hb o (fun e => hn (e ▸ hf))⟩
theorem Only.setIter {w : World} {b : Nat} (o : Obj) (fs : Nat → Prop) (hf : fs b) : Only w (Go.ChangeMaps.setBlock w b o) fs :=
  ⟨rfl, rfl, rfl, by simp [Go.ChangeMaps.setBlock], fun g _ hn => by
    have hne : b ≠ g := fun e => hn (e ▸ hf)
    simp [Go.ChangeMaps.setBlock, hne]⟩

/-- 'm[k] = p', k not in it yet. -/
theorem run_update_int (w : World) (ht : P.underlying t = some (.map kt et)) (hk : P.underlying kt = some (.int .i64)) {mb : Nat} {ks : List (Int × Nat)} (hm : MapB w mb ks) (k : Int) (b : Nat) (hn : klook ks k = none) :
    ∃ w', (Instr.mapUpdate t (.map (some mb)) (.int .i64 k) (.pointer (some ⟨b, 0, none⟩))).run P w = .ok () w' ∧ MapB w' mb (ks ++ [(k, b)]) ∧ Only w w' (· = mb) ∧ w'.heap.size = w.heap.size := by
  obtain ⟨E, c, h1, h2, h3, h4⟩ := hm.ex
  have g2 : Instr.findNow (.int .i64) (.int .i64 k) E.toList 0 = some none := by
    rcases findNow_ints k E.toList ks 0 h2 with ⟨_, g2⟩ | ⟨j, b', g1, _⟩
    · exact g2
    · rw [hn] at g1; cases g1
  refine ⟨setBlock w mb (.map (E.push { key := .int .i64 k, val := .pointer (some ⟨b, 0, none⟩), born := c }) (c + 1)), ?_, ⟨_, _, heap_setBlock_same h1 _, ?_, ?_, ?_⟩, Only.setBlock h1 _ _ rfl, by simp [Go.ChangeMaps.setBlock]⟩
  · simp [Instr.mapUpdate, run_underlying ht, MapKept.run_getObj_map (P := P) h1, run_checkKey_int w hk, run_findKey_int w hk k _ _ g2, MapKept.run_setObj_map (P := P) _ h1]
    rfl
  · unfold ents at h2 ⊢
    simp [h2]
  · intro e he
    simp at he
    rcases he with he | rfl
    · have := h3 e (by simpa using he); omega
    · simp
  · simp only [Array.toList_push, List.map_append, List.map_cons, List.map_nil]
    rw [List.nodup_append]
    refine ⟨h4, by simp, ?_⟩
    intro a ha b' hb'
    simp at ha hb'
    obtain ⟨e, he, rfl⟩ := ha
    subst hb'
    have := h3 e (by simpa using he)
    omega

/-- 'delete(m, k)'. -/
theorem run_delete_int (w : World) (ht : P.underlying t = some (.map kt et)) (hk : P.underlying kt = some (.int .i64)) {mb : Nat} {ks : List (Int × Nat)} (hm : MapB w mb ks) (k : Int) (kt' : TypeId) :
    ∃ w' ks', (∀ ty, (Builtin.delete_ #[t, kt'] ty #[.map (some mb), .int .i64 k]).run P w = .ok (.tuple #[]) w') ∧ MapB w' mb ks' ∧ Only w w' (· = mb) ∧ w'.heap.size = w.heap.size ∧ ((klook ks k = none ∧ ks' = ks) ∨ ∃ j b, ks[j]? = some (k, b) ∧ ks' = ks.eraseIdx j) := by
  obtain ⟨E, c, h1, h2, h3, h4⟩ := hm.ex
  rcases findNow_ints k E.toList ks 0 h2 with ⟨g1, g2⟩ | ⟨j, b, g1, g2, g3⟩
  · refine ⟨setBlock w mb (.map E c), ks, ?_, ⟨E, c, heap_setBlock_same h1 _, h2, h3, h4⟩, Only.setBlock h1 _ _ rfl, by simp [Go.ChangeMaps.setBlock], .inl ⟨g1, rfl⟩⟩
    intro ty
    simp [Builtin.delete_, run_underlying ht, MapKept.run_getObj_map (P := P) h1, run_checkKey_int w hk, run_findKey_int w hk k _ _ g2, MapKept.run_setObj_map (P := P) _ h1]
    rfl
  · have hl := ents_length h2
    have hj : j < ks.length := (List.getElem?_eq_some_iff.1 g2).1
    have hjE : j < E.size := by simp at hl; omega
    rw [Nat.zero_add] at g3
    refine ⟨setBlock w mb (.map (E.eraseIdxIfInBounds j) c), ks.eraseIdx j, ?_, ⟨_, c, heap_setBlock_same h1 _, ?_, ?_, ?_⟩, Only.setBlock h1 _ _ rfl, by simp [Go.ChangeMaps.setBlock], .inr ⟨j, b, g2, rfl⟩⟩
    · intro ty
      simp [Builtin.delete_, run_underlying ht, MapKept.run_getObj_map (P := P) h1, run_checkKey_int w hk, run_findKey_int w hk k _ _ g3, MapKept.run_setObj_map (P := P) _ h1]
      rfl
    · simp only [Array.eraseIdxIfInBounds, hjE, dif_pos, Array.toList_eraseIdx]
      unfold ents at h2 ⊢
      rw [Go.ChangeMaps.map_eraseIdx, h2, Go.ChangeMaps.map_eraseIdx]
    · intro e he
      simp only [Array.eraseIdxIfInBounds, hjE, dif_pos, Array.toList_eraseIdx] at he
      exact h3 e (List.mem_of_mem_eraseIdx he)
    · simp only [Array.eraseIdxIfInBounds, hjE, dif_pos, Array.toList_eraseIdx]
      rw [Go.ChangeMaps.map_eraseIdx]
      exact h4.sublist (List.eraseIdx_sublist _ _)
end
end Go.Proofs.Ytnbhmcbhpkjgcaa
