/- gates.Slots: Get, Set, Clear, Free, NewSlots. -/
import Derived.Test.YtnbhmcbhpkjgcaaMapI
set_option linter.unusedSimpArgs false
set_option linter.unusedVariables false
namespace Go.Proofs.Ytnbhmcbhpkjgcaa
open Go.RowKit

/-- Thirty-two numbers. -/
def cells32 (f : Nat → Int) : Array Value := ((List.range 32).map fun i => Value.int .u64 (f i)).toArray
theorem cells32_size (f : Nat → Int) : (cells32 f).size = 32 := by simp [cells32]
theorem cells32_get (f : Nat → Int) (i : Nat) (h : i < 32) : (cells32 f)[i]? = some (.int .u64 (f i)) := by simp [cells32, h]
theorem cells32_set (f : Nat → Int) (i : Nat) (v : Int) : (cells32 f).setIfInBounds i (.int .u64 v) = cells32 (fun k => if k = i then v else f k) := by
  apply Array.ext_getElem?
  intro k
  by_cases hk : k < 32
  · rw [cells32_get _ k hk, Array.getElem?_setIfInBounds]
    by_cases h : i = k
    · subst h
      simp [cells32_size, hk]
    · rw [if_neg h, cells32_get f k hk, if_neg (fun e => h e.symm)]
  · have h1 : (cells32 f).size = 32 := cells32_size f
    have h2 : (cells32 (fun k => if k = i then v else f k)).size = 32 := cells32_size _
    rw [Array.getElem?_eq_none (by simp [h1]; omega), Array.getElem?_eq_none (by omega)]
theorem cells32_zero : cells32 (fun _ => 0) = #[.int .u64 0, .int .u64 0, .int .u64 0, .int .u64 0, .int .u64 0, .int .u64 0, .int .u64 0, .int .u64 0, .int .u64 0, .int .u64 0, .int .u64 0, .int .u64 0, .int .u64 0, .int .u64 0, .int .u64 0, .int .u64 0,
    .int .u64 0, .int .u64 0, .int .u64 0, .int .u64 0, .int .u64 0, .int .u64 0, .int .u64 0, .int .u64 0, .int .u64 0, .int .u64 0, .int .u64 0, .int .u64 0, .int .u64 0, .int .u64 0, .int .u64 0, .int .u64 0] := rfl

/-- Numbers of threads, in memory: the pointer's block, the map's, the rows'. -/
structure SlotsAt (w : World) (fs : Nat → Prop) (sp : Nat) (N : Int → Nat → Int) : Prop where
  ex : ∃ mb ks, Blk w sp #[.map (some mb)] 60 ∧ MapB w mb ks ∧ (ks.map (·.1)).Nodup ∧ (ks.map (·.2)).Nodup ∧ fs sp ∧ fs mb ∧
    (∀ k b, (k, b) ∈ ks → Blk w b (cells32 (N k)) 47 ∧ fs b) ∧ ∀ k, klook ks k = none → ∀ i, i < 32 → N k i = 0

theorem SlotsAt.of_only {w w' : World} {fs gs : Nat → Prop} {sp : Nat} {N : Int → Nat → Int} (h : SlotsAt w fs sp N) (ho : Only w w' gs) (hd : ∀ g, fs g → ¬ gs g) : SlotsAt w' fs sp N := by
  obtain ⟨mb, ks, h1, h2, h3, h4, h5, h6, h7, h8⟩ := h.ex
  refine ⟨mb, ks, ?_, h2.of_same (ho.same mb h2.lt (hd mb h6)), h3, h4, h5, h6, fun k b hb => ⟨?_, (h7 k b hb).2⟩, h8⟩
  · have := ho.same sp h1.lt (hd sp h5)
    unfold Blk at h1 ⊢
    rw [this, h1]
  · have hb1 := (h7 k b hb).1
    have := ho.same b hb1.lt (hd b (h7 k b hb).2)
    unfold Blk at hb1 ⊢
    rw [this, hb1]

theorem klook_mem {ks : List (Int × Nat)} {k : Int} {b : Nat} (h : klook ks k = some b) : (k, b) ∈ ks := by
  unfold klook at h
  cases hf : ks.find? (fun x => x.1 == k) with
  | none => rw [hf] at h; cases h
  | some x =>
    rw [hf] at h
    simp at h
    have h1 := List.find?_some hf
    have h2 := List.mem_of_find?_eq_some hf
    simp at h1
    obtain ⟨a, c⟩ := x
    simp at h h1
    subst h h1
    exact h2

def mayB (t x : Int) : Bool := decide (0 < t ∧ 0 ≤ x ∧ x < 32)

theorem gates_may (t x : Int) (w : World) : Calls Try.prog 23 #[.int .i64 t, .int .i64 x] w fun e w' => e = .returned (.bool (mayB t x)) ∧ w = w' := by
  have hf : mayB t x = (decide (0 < t) && decide (0 ≤ x) && decide (x < 32)) := by simp [mayB, Bool.decide_and, Bool.and_assoc]
  have HF := hid hf
  clear hf
  by_cases h1 : 0 < t
  · by_cases h2 : 0 ≤ x
    all_goals
      go_enter Try.func23, Try.ntmps23
      go_wp2
      go_ret
      rw [HF]
      simp [h1, h2] <;> omega
  · go_enter Try.func23, Try.ntmps23
    go_wp2
    go_ret
    rw [HF]
    simp [h1] <;> omega

theorem zero_ptr : (Try.prog.info? 62).map (·.zero) = some (some (.pointer none)) := by kernel_rfl

/-- What Get tells. -/
def getN (N : Int → Nat → Int) (t x : Int) : Int := if mayB t x then N t x.toNat else 0

set_option maxRecDepth 100000 in
set_option maxHeartbeats 1000000 in
theorem slots_Get (w : World) (fs : Nat → Prop) (sp : Nat) (N : Int → Nat → Int) (h : SlotsAt w fs sp N) (t x : Int) :
    Calls Try.prog 8 #[.pointer (some ⟨sp, 0, none⟩), .int .i64 t, .int .i64 x] w fun e w' => e = .returned (.int .u64 (getN N t x)) ∧ w = w' := by
  obtain ⟨mb, ks, h1, h2, h3, h4, h5, h6, h7, h8⟩ := h.ex
  have hl := run_lookup_int (P := Try.prog) w Try.underlying58 Try.underlying3 zero_ptr h2 t
  have c0 := h1.cell 0
  simp at c0
  cases hk : klook ks t with
  | none =>
    rw [hk] at hl
    simp only at hl
    have hg : getN N t x = 0 := by
      unfold getN
      split
      · rename_i hm
        simp only [mayB, decide_eq_true_eq] at hm
        exact h8 t hk _ (by omega)
      · rfl
    rw [hg]
    clear h1 h2 h3 h4 h5 h6 h7 h8 hk hg h
    go_enter Try.func8, Try.ntmps8
    go_wp2
    go_ret
    exact ⟨rfl, rfl⟩
  | some b =>
    rw [hk] at hl
    simp only at hl
    obtain ⟨hb, hfb⟩ := h7 t b (klook_mem hk)
    by_cases hm : mayB t x = true
    · have hg : getN N t x = N t x.toNat := by rw [getN, if_pos hm]
      rw [hg]
      have hx : 0 ≤ x ∧ x < 32 := by
        simp only [mayB, decide_eq_true_eq] at hm
        omega
      obtain ⟨i, rfl⟩ := Int.eq_ofNat_of_zero_le hx.1
      rw [Int.toNat_natCast]
      have hi : i < 32 := by omega
      have c1 := (hb.cell i).trans (cells32_get (N t) i hi)
      have HM := hid hm
      clear h1 h2 h3 h4 h5 h6 h7 h8 hk hg h hm hb hfb hx
      go_enter Try.func8, Try.ntmps8
      go_wp2_with fail
      refine (gates_may t i w).mono ?_
      rintro e w' ⟨rfl, rfl⟩
      rw [HM.out]
      go_wp2_with fail
      go_ret
      exact ⟨rfl, rfl⟩
    · have hm : mayB t x = false := by simpa using hm
      have hg : getN N t x = 0 := by rw [getN, if_neg (by rw [hm]; simp)]
      rw [hg]
      have HM := hid hm
      clear h1 h2 h3 h4 h5 h6 h7 h8 hk hg h hm hb hfb
      go_enter Try.func8, Try.ntmps8
      go_wp2_with fail
      refine (gates_may t x w).mono ?_
      rintro e w' ⟨rfl, rfl⟩
      rw [HM.out]
      go_wp2_with fail
      go_ret
      exact ⟨rfl, rfl⟩

/-- One number more. -/
def updN (N : Int → Nat → Int) (t x v : Int) : Int → Nat → Int := fun k i => if k = t ∧ (i : Int) = x then v else N k i

theorem klook_append (ks : List (Int × Nat)) (t : Int) (b : Nat) (k : Int) : klook (ks ++ [(t, b)]) k = match klook ks k with | some c => some c | none => if t = k then some b else none := by
  induction ks with
  | nil => rw [List.nil_append, klook_cons]; rfl
  | cons x ks ih =>
    rw [List.cons_append, klook_cons, klook_cons, ih]
    split <;> rfl

theorem klook_none {ks : List (Int × Nat)} {k : Int} (h : klook ks k = none) : k ∉ ks.map (·.1) := by
  induction ks with
  | nil => simp
  | cons x ks ih =>
    rw [klook_cons] at h
    split at h
    · cases h
    · rename_i hx
      simp only [List.map_cons, List.mem_cons, not_or]
      exact ⟨fun e => hx e.symm, ih h⟩

theorem arr_lt {w : World} {b : Nat} {cs : Array Value} {t : TypeId} (h : Blk w b cs t) : b < w.heap.size := h.lt

theorem nodup_inj {α β : Type} (f : α → β) : ∀ (l : List α), (l.map f).Nodup → ∀ a b, a ∈ l → b ∈ l → f a = f b → a = b
  | [], _, a, _, ha, _, _ => by simp at ha
  | x :: l, h, a, b, ha, hb, e => by
    simp only [List.map_cons, List.nodup_cons] at h
    rcases List.mem_cons.1 ha with ha1 | ha1
    · rcases List.mem_cons.1 hb with hb1 | hb1
      · rw [ha1, hb1]
      · exact absurd (List.mem_map.2 ⟨b, hb1, by rw [← e, ha1]⟩) h.1
    · rcases List.mem_cons.1 hb with hb1 | hb1
      · exact absurd (List.mem_map.2 ⟨a, ha1, by rw [e, hb1]⟩) h.1
      · exact nodup_inj f l h.2 a b ha1 hb1 e

/-- A store into a thread's row. -/
theorem SlotsAt.store {w : World} {fs : Nat → Prop} {sp : Nat} {N : Int → Nat → Int} {mb : Nat} {ks : List (Int × Nat)} (h1 : Blk w sp #[.map (some mb)] 60) (h2 : MapB w mb ks) (h3 : (ks.map (·.1)).Nodup) (h4 : (ks.map (·.2)).Nodup)
    (h5 : fs sp) (h6 : fs mb) (h7 : ∀ k b, (k, b) ∈ ks → Blk w b (cells32 (N k)) 47 ∧ fs b) (h8 : ∀ k, klook ks k = none → ∀ i, i < 32 → N k i = 0) {t : Int} {b : Nat} (hb : (t, b) ∈ ks) (i : Nat) (hi : i < 32) (v : Int) :
    SlotsAt (w.setCell ⟨b, i, none⟩ (.int .u64 v)) fs sp (updN N t i v) := by
  have hbb := (h7 t b hb).1
  have hnm : b ≠ mb := fun e => by
    obtain ⟨E, c, g, _⟩ := h2.ex
    unfold Blk at hbb
    rw [e, g] at hbb
    cases hbb
  have hns : b ≠ sp := fun e => by
    unfold Blk at hbb h1
    rw [e, h1] at hbb
    have := congrArg (fun o => match o with | some (Obj.cells c _ _) => c.size | _ => 0) hbb
    simp [cells32_size] at this
  refine ⟨mb, ks, h1.apart' ⟨b, i, none⟩ hns _, h2.of_same (heap_setCell_other w _ mb _ (fun e => hnm e.symm)), h3, h4, h5, h6, fun k c hc => ⟨?_, (h7 k c hc).2⟩, fun k hk j hj => ?_⟩
  · by_cases e : c = b
    · subst e
      have hkt : k = t := (Prod.mk.inj (nodup_inj (·.2) ks h4 _ _ hc hb rfl)).1
      subst hkt
      have := (h7 k c hc).1.set' i (.int .u64 v)
      rw [cells32_set] at this
      have he : cells32 (fun j => if j = i then v else N k j) = cells32 (updN N k i v k) := by
        congr 1
        funext j
        simp only [updN, true_and]
        by_cases hj : j = i
        · rw [if_pos hj, if_pos (by omega)]
        · rw [if_neg hj, if_neg (by omega)]
      rw [← he]
      exact this
    · have hk : k ≠ t := fun e2 => by
        subst e2
        exact e (Prod.mk.inj (nodup_inj (·.1) ks h3 _ _ hc hb rfl)).2
      have he : updN N t i v k = N k := by funext j; simp [updN, hk]
      rw [he]
      exact (h7 k c hc).1.apart' ⟨b, i, none⟩ (fun e2 => e e2.symm) _
  · have hkt : k ≠ t := fun e => by
      subst e
      have := klook_none hk
      exact this (List.mem_map.2 ⟨(k, b), hb, rfl⟩)
    simp [updN, hkt]
    exact h8 k hk j hj

theorem mem_klook {ks : List (Int × Nat)} (h : (ks.map (·.1)).Nodup) {k : Int} {b : Nat} (hm : (k, b) ∈ ks) : klook ks k = some b := by
  cases hk : klook ks k with
  | none => exact absurd (List.mem_map.2 ⟨(k, b), hm, rfl⟩) (klook_none hk)
  | some c =>
    have := nodup_inj (·.1) ks h _ _ (klook_mem hk) hm rfl
    rw [(Prod.mk.inj this).2]

/-- What a step leaves of the numbers. -/
structure SlotsNext (w w' : World) (fs : Nat → Prop) (sp : Nat) (N' : Int → Nat → Int) (fs' : Nat → Prop) : Prop where
  st : SlotsAt w' fs' sp N'
  only : Only w w' fs
  fresh : ∀ g, fs' g → fs g ∨ (w.heap.size ≤ g ∧ g < w'.heap.size)

set_option maxRecDepth 100000 in
set_option maxHeartbeats 2000000 in
theorem slots_Set (w : World) (fs : Nat → Prop) (sp : Nat) (N : Int → Nat → Int) (h : SlotsAt w fs sp N) (t x v : Int) :
    Calls Try.prog 7 #[.pointer (some ⟨sp, 0, none⟩), .int .i64 t, .int .i64 x, .int .u64 v] w fun e w' => e = .returned (.bool (mayB t x)) ∧ ∃ fs', SlotsNext w w' fs sp (if mayB t x then updN N t x v else N) fs' := by
  by_cases hm : mayB t x = true
  · have hx : 0 ≤ x ∧ x < 32 := by
      simp only [mayB, decide_eq_true_eq] at hm
      omega
    obtain ⟨i, rfl⟩ := Int.eq_ofNat_of_zero_le hx.1
    have hi : i < 32 := by omega
    obtain ⟨mb, ks, h1, h2, h3, h4, h5, h6, h7, h8⟩ := h.ex
    have HM := hid hm
    rw [hm]
    cases hk : klook ks t with
    | none =>
      have hmlt := h2.lt
      have hslt := h1.lt
      have hl := run_lookup_int (P := Try.prog) w Try.underlying58 Try.underlying3 zero_ptr h2 t
      rw [hk] at hl
      simp only at hl
      obtain ⟨w1, hw1⟩ : ∃ w1, w1 = w.alloc (.cells #[.int .u64 0, .int .u64 0, .int .u64 0, .int .u64 0, .int .u64 0, .int .u64 0, .int .u64 0, .int .u64 0, .int .u64 0, .int .u64 0, .int .u64 0, .int .u64 0, .int .u64 0, .int .u64 0, .int .u64 0, .int .u64 0, .int .u64 0, .int .u64 0, .int .u64 0, .int .u64 0, .int .u64 0, .int .u64 0, .int .u64 0, .int .u64 0, .int .u64 0, .int .u64 0, .int .u64 0, .int .u64 0, .int .u64 0, .int .u64 0, .int .u64 0, .int .u64 0] 47) := ⟨_, rfl⟩
      have hB1 : Blk w1 w.heap.size (cells32 fun _ => 0) 47 := hw1 ▸ Blk.new w _ _
      have hO1 : ∀ fs, Only w w1 fs := fun fs => hw1 ▸ Only.alloc w _ fs
      have hs1 : w1.heap.size = w.heap.size + 1 := by rw [hw1]; simp
      have h2' : MapB w1 mb ks := h2.of_same ((hO1 (fun _ => False)).same mb hmlt (fun h => h))
      obtain ⟨w2, hu, hm2, hO2, hs2⟩ := run_update_int (P := Try.prog) w1 Try.underlying58 Try.underlying3 h2' t w.heap.size hk
      rw [hw1] at hu
      have hsm : sp ≠ mb := fun e => by
        obtain ⟨E, c, g, _⟩ := h2.ex
        unfold Blk at h1
        rw [e, g] at h1
        cases h1
      have hk2 : klook (ks ++ [(t, w.heap.size)]) t = some w.heap.size := by rw [klook_append, hk]; simp
      have hl2 := run_lookup_int (P := Try.prog) w2 Try.underlying58 Try.underlying3 zero_ptr hm2 t
      rw [hk2] at hl2
      simp only at hl2
      have keep : ∀ {b : Nat} {cs : Array Value} {T : TypeId}, Blk w b cs T → Blk w2 b cs T := fun {b cs T} hb => by
        have hne : b ≠ mb := fun e => by
          obtain ⟨E, c, g, _⟩ := h2.ex
          unfold Blk at hb
          rw [e, g] at hb
          cases hb
        have e1 := (hO1 (fun _ => False)).same b hb.lt (fun h => h)
        have e2 := hO2.same b (by have := hb.lt; omega) hne
        unfold Blk at hb ⊢
        rw [e2, e1, hb]
      have hBn : Blk w2 w.heap.size (cells32 fun _ => 0) 47 := by
        have := hO2.same w.heap.size (by omega) (by omega)
        unfold Blk at hB1 ⊢
        rw [this, hB1]
      have hN0 : cells32 (fun _ => 0) = cells32 (N t) := by
        unfold cells32
        congr 1
        apply List.map_congr_left
        intro j hj
        rw [h8 t hk j (by simpa using hj)]
      have hst := SlotsAt.store (fs := fun g => fs g ∨ g = w.heap.size) (N := N) (keep h1) hm2
        (by
          rw [List.map_append, List.nodup_append]
          exact ⟨h3, by simp, fun a ha b hb e => klook_none hk (by simp at hb; rw [← hb, ← e]; exact ha)⟩)
        (by
          rw [List.map_append, List.nodup_append]
          refine ⟨h4, by simp, fun a ha b hb e => ?_⟩
          simp at hb
          obtain ⟨p, hp, e2⟩ := List.mem_map.1 ha
          have := (h7 p.1 p.2 hp).1.lt
          omega)
        (.inl h5) (.inl h6)
        (fun k b hb => by
          rcases List.mem_append.1 hb with hb | hb
          · exact ⟨keep (h7 k b hb).1, .inl (h7 k b hb).2⟩
          · simp at hb
            obtain ⟨rfl, rfl⟩ := hb
            exact ⟨hN0 ▸ hBn, .inr rfl⟩)
        (fun k hk' => h8 k (by
          rw [klook_append] at hk'
          cases hq : klook ks k with
          | none => rfl
          | some c => rw [hq] at hk'; cases hk'))
        (t := t) (b := w.heap.size) (by simp) i hi v
      have c0 := h1.cell 0
      simp at c0
      have c02 := (keep h1).cell 0
      simp at c02
      have cz : (cells32 fun _ => 0)[i]? = some (.int .u64 0) := cells32_get _ i hi
      have c1 := (hBn.cell i).trans cz
      have f1 := hBn.free i
      have HS := hid hst
      have HON : Hid (Only w (w2.setCell ⟨w.heap.size, i, none⟩ (.int .u64 v)) fs) :=
        ⟨(hO2.os.trans (hO1 fs).os), (hO2.tape.trans (hO1 fs).tape), (hO2.output.trans (hO1 fs).output), by simp [World.setCell]; omega, fun g hg hn => by
          rw [heap_setCell_other _ _ _ _ (by show g ≠ w.heap.size; omega), hO2.same g (by omega) (fun e => hn (e ▸ h6)), (hO1 fs).same g hg hn]⟩
      have HSZ : Hid (w.heap.size < (w2.setCell ⟨w.heap.size, i, none⟩ (.int .u64 v)).heap.size) := by simp [Hid, World.setCell]; omega
      clear h1 h2 h3 h4 h5 h6 h7 h8 hk h hm hx hst keep hBn hN0 hw1 hB1 hO1 hO2 hm2 h2' hk2 cz hs2 hs1
      go_enter Try.func7, Try.ntmps7
      go_wp2_with fail
      refine (gates_may t i w).mono ?_
      rintro e w' ⟨rfl, rfl⟩
      rw [HM.out]
      go_wp2_with fail
      go_ret
      exact ⟨rfl, _, HS.out, HON.out, fun g hg => hg.elim .inl (fun e => .inr ⟨by omega, by rw [e]; exact HSZ.out⟩)⟩
    | some b =>
      have hl := run_lookup_int (P := Try.prog) w Try.underlying58 Try.underlying3 zero_ptr h2 t
      rw [hk] at hl
      simp only at hl
      have hb := (h7 t b (klook_mem hk)).1
      have c0 := h1.cell 0
      simp at c0
      have c1 := (hb.cell i).trans (cells32_get (N t) i hi)
      have f1 := hb.free i
      have HS := hid (SlotsAt.store h1 h2 h3 h4 h5 h6 h7 h8 (klook_mem hk) i hi v)
      have HF := hid (h7 t b (klook_mem hk)).2
      clear h1 h2 h3 h4 h5 h6 h7 h8 hk h hm hb hx
      go_enter Try.func7, Try.ntmps7
      go_wp2_with fail
      refine (gates_may t i w).mono ?_
      rintro e w' ⟨rfl, rfl⟩
      rw [HM.out]
      go_wp2_with fail
      go_ret
      exact ⟨rfl, fs, HS.out, Only.setCell _ _ _ _ HF.out, fun g hg => .inl hg⟩
  · have hm : mayB t x = false := by simpa using hm
    rw [hm]
    have HM := hid hm
    have H := hid h
    clear hm h
    go_enter Try.func7, Try.ntmps7
    go_wp2_with fail
    refine (gates_may t x w).mono ?_
    rintro e w' ⟨rfl, rfl⟩
    rw [HM.out]
    go_wp2_with fail
    go_ret
    exact ⟨rfl, fs, H.out, Only.refl _ _, fun g hg => .inl hg⟩
end Go.Proofs.Ytnbhmcbhpkjgcaa
