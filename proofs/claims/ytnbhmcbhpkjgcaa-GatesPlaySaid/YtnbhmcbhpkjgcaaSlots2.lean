/- gates.Slots: NewSlots, Clear, Free. -/
import Derived.Test.YtnbhmcbhpkjgcaaSlots
set_option linter.unusedSimpArgs false
set_option linter.unusedVariables false
namespace Go.Proofs.Ytnbhmcbhpkjgcaa
open Go.RowKit
open Go.ChangeMaps (setBlock)

set_option maxRecDepth 100000 in
set_option maxHeartbeats 1000000 in
theorem slots_New (w : World) : Calls Try.prog 6 #[] w fun e w' => ∃ sp fs, e = .returned (.pointer (some ⟨sp, 0, none⟩)) ∧ SlotsAt w' fs sp (fun _ _ => 0) ∧ Below w.heap.size w w' ∧ ∀ g, fs g → w.heap.size ≤ g ∧ g < w'.heap.size := by
  have hmm := @run_makeMap Try.prog
  go_enter Try.func6, Try.ntmps6
  go_wp2
  go_ret
  refine ⟨_, fun g => g = w.heap.size ∨ g = w.heap.size + 1, rfl, ⟨w.heap.size, [], ?_, ?_, by simp, by simp, .inr rfl, .inl rfl, by simp, fun _ _ _ _ => rfl⟩, up_alloc (up_alloc (up_refl _) _) _, fun g hg => ?_⟩
  · have := Blk.new (w.alloc (.map #[] 0)) #[.map (some w.heap.size)] 60
    simpa using this
  · exact (MapB.new w).of_same (heap_alloc_old _ _ (by simp))
  · simp
    omega

/-- A thread's numbers are noughts. -/
def clrN (N : Int → Nat → Int) (t : Int) : Int → Nat → Int := fun k i => if k = t then 0 else N k i

set_option maxRecDepth 100000 in
set_option maxHeartbeats 1000000 in
theorem slots_Clear (w : World) (fs : Nat → Prop) (sp : Nat) (N : Int → Nat → Int) (h : SlotsAt w fs sp N) (t : Int) :
    Calls Try.prog 10 #[.pointer (some ⟨sp, 0, none⟩), .int .i64 t] w fun e w' => e = .returned (.tuple #[]) ∧ SlotsNext w w' fs sp (clrN N t) fs := by
  obtain ⟨mb, ks, h1, h2, h3, h4, h5, h6, h7, h8⟩ := h.ex
  obtain ⟨w1, ks', hd, hm1, hO, hs1, hks⟩ := run_delete_int (P := Try.prog) w Try.underlying58 Try.underlying3 h2 t 3
  have c0 := h1.cell 0
  simp at c0
  have keep : ∀ {b : Nat} {cs : Array Value} {T : TypeId}, Blk w b cs T → Blk w1 b cs T := fun {b cs T} hb => by
    have hne : b ≠ mb := fun e => by
      obtain ⟨E, c, g, _⟩ := h2.ex
      unfold Blk at hb
      rw [e, g] at hb
      cases hb
    have e2 := hO.same b hb.lt hne
    unfold Blk at hb ⊢
    rw [e2, hb]
  have hst : SlotsAt w1 fs sp (clrN N t) := by
    refine ⟨mb, ks', keep h1, hm1, ?_, ?_, h5, h6, ?_, ?_⟩
    · rcases hks with ⟨_, rfl⟩ | ⟨j, b, _, rfl⟩
      · exact h3
      · exact h3.sublist ((List.eraseIdx_sublist _ _).map _)
    · rcases hks with ⟨_, rfl⟩ | ⟨j, b, _, rfl⟩
      · exact h4
      · exact h4.sublist ((List.eraseIdx_sublist _ _).map _)
    · intro k b hb
      have hmem : (k, b) ∈ ks ∧ k ≠ t := by
        rcases hks with ⟨hn, rfl⟩ | ⟨j, c, hj, rfl⟩
        · exact ⟨hb, fun e => klook_none hn (e ▸ List.mem_map.2 ⟨(k, b), hb, rfl⟩)⟩
        · obtain ⟨i, hi, hg⟩ := List.mem_eraseIdx_iff_getElem?.1 hb
          refine ⟨List.mem_of_getElem? hg, fun e => hi ?_⟩
          have h3' := h3
          rw [List.nodup_iff_pairwise_ne] at h3'
          have e1 : (ks.map (·.1))[i]? = some t := by rw [List.getElem?_map, hg, e]; rfl
          have e2 : (ks.map (·.1))[j]? = some t := by rw [List.getElem?_map, hj]; rfl
          obtain ⟨l1, g1⟩ := List.getElem?_eq_some_iff.1 e1
          obtain ⟨l2, g2⟩ := List.getElem?_eq_some_iff.1 e2
          rcases Nat.lt_trichotomy i j with hlt | heq | hlt
          · exact absurd (g1.trans g2.symm) ((List.pairwise_iff_getElem.1 h3') i j l1 l2 hlt)
          · exact heq
          · exact absurd (g2.trans g1.symm) ((List.pairwise_iff_getElem.1 h3') j i l2 l1 hlt)
      have he : clrN N t k = N k := by funext i; simp [clrN, hmem.2]
      rw [he]
      exact ⟨keep (h7 k b hmem.1).1, (h7 k b hmem.1).2⟩
    · intro k hk i hi
      by_cases e : k = t
      · simp [clrN, e]
      · simp only [clrN, if_neg e]
        refine h8 k ?_ i hi
        rcases hks with ⟨hn, rfl⟩ | ⟨j, c, hj, rfl⟩
        · exact hk
        · cases hq : klook ks k with
          | none => rfl
          | some b =>
            have hm := klook_mem hq
            obtain ⟨i, hi, hg⟩ := List.getElem_of_mem hm
            have hij : i ≠ j := fun e2 => by
              subst e2
              rw [List.getElem?_eq_getElem hi, hg] at hj
              exact e (Prod.mk.inj (Option.some.inj hj)).1
            have : (k, b) ∈ ks.eraseIdx j := List.mem_eraseIdx_iff_getElem?.2 ⟨i, hij, by rw [List.getElem?_eq_getElem hi, hg]⟩
            exact absurd (List.mem_map.2 ⟨(k, b), this, rfl⟩) (klook_none hk)
  have HS := hid hst
  have HO := hid (hO.mono (fun g _ e => e ▸ h6))
  clear h1 h2 h3 h4 h5 h6 h7 h8 h hm1 hks hst keep hO
  go_enter Try.func10, Try.ntmps10
  go_wp2
  go_end0
  exact ⟨rfl, HS.out, HO.out, fun g hg => .inl hg⟩
end Go.Proofs.Ytnbhmcbhpkjgcaa
