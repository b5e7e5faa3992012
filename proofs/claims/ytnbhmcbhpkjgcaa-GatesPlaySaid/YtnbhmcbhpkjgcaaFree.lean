/- gates.Slots: Free: a number of all threads is made a nought. -/
import Derived.Test.YtnbhmcbhpkjgcaaSlots2
set_option linter.unusedSimpArgs false
set_option linter.unusedVariables false
namespace Go.Proofs.Ytnbhmcbhpkjgcaa
open Go.RowKit
open Go.ChangeMaps (setBlock)

/-- One number of all threads is a nought. -/
def freeN (N : Int → Nat → Int) (x : Nat) : Int → Nat → Int := fun k i => if i = x then 0 else N k i

/-- How far the loop is: what has been seen has the nought. -/
structure FreeSt (w0 w : World) (E : Array MapEntry) (clock : Nat) (fs : Nat → Prop) (sp mb it : Nat) (N : Int → Nat → Int) (x : Nat) (k : Nat) : Prop where
  ex : ∃ seen c0, w.heap[it]? = some (.mapIter (some mb) clock seen c0) ∧ clock ≤ c0 ∧ (leftOf E seen).size ≤ k ∧ w.heap[mb]? = some (.map E clock) ∧ Blk w sp #[.map (some mb)] 60 ∧
    (∀ e ∈ E.toList, ∀ t b, e.key = .int .i64 t → e.val = .pointer (some ⟨b, 0, none⟩) → Blk w b (cells32 (fun i => if i = x ∧ seen.contains e.born = true then 0 else N t i)) 47)
  only : Only w0 w fs

theorem left_less (E : Array MapEntry) (seen : Array Nat) (e : MapEntry) (he : e ∈ (leftOf E seen).toList) : (leftOf E (seen.push e.born)).size < (leftOf E seen).size := by
  have h1 : (leftOf E (seen.push e.born)).toList = (leftOf E seen).toList.filter (fun y => !(y.born == e.born)) := by
    simp only [leftOf, Array.toList_filter, List.filter_filter]
    apply List.filter_congr
    intro y _
    simp only [Array.contains_push]
    cases h1 : seen.contains y.born <;> simp [h1, Bool.beq_comm]
  have h2 : (leftOf E (seen.push e.born)).toList.length < (leftOf E seen).toList.length := by
    rw [h1, List.length_filter_lt_length_iff_exists]
    exact ⟨e, he, by simp⟩
  simpa using h2

theorem born_inj (E : List MapEntry) (h : (E.map (·.born)).Nodup) (a b : MapEntry) (ha : a ∈ E) (hb : b ∈ E) (e : a.born = b.born) : a = b := nodup_inj (·.born) E h a b ha hb e

set_option maxRecDepth 100000 in
set_option maxHeartbeats 4000000 in
theorem slots_Free (w : World) (fs : Nat → Prop) (sp : Nat) (N : Int → Nat → Int) (h : SlotsAt w fs sp N) (hlt : ∀ g, fs g → g < w.heap.size) (x : Int) :
    Calls Try.prog 11 #[.pointer (some ⟨sp, 0, none⟩), .int .i64 x] w fun e w' => e = .returned (.tuple #[]) ∧ SlotsNext w w' fs sp (if mayB 1 x then freeN N x.toNat else N) fs := by
  by_cases hm : mayB 1 x = true
  · have hx : 0 ≤ x ∧ x < 32 := by
      simp only [mayB, decide_eq_true_eq] at hm
      omega
    obtain ⟨i, rfl⟩ := Int.eq_ofNat_of_zero_le hx.1
    have hi : i < 32 := by omega
    rw [hm, Int.toNat_natCast]
    have HM := hid hm
    obtain ⟨mb, ks, h1, h2, h3, h4, h5, h6, h7, h8⟩ := h.ex
    obtain ⟨E, clock, hE, hents, hborn, hnod⟩ := h2.ex
    have c0 := h1.cell 0
    simp at c0
    have hr := run_range_map (P := Try.prog) w 58 3 62 mb E clock Try.underlying58 hE
    have hmlt := h2.lt
    have hslt := h1.lt
    obtain ⟨w1, hw1⟩ : ∃ w1, w.alloc (.mapIter (some mb) clock #[] clock) = w1 := ⟨_, rfl⟩
    have hmem : ∀ e ∈ E.toList, ∃ t b, (t, b) ∈ ks ∧ e.key = .int .i64 t ∧ e.val = .pointer (some ⟨b, 0, none⟩) := fun e he => by
      obtain ⟨j, hj, hg⟩ := List.getElem_of_mem he
      obtain ⟨t, b, g1, g2, g3⟩ := ents_get hents (j := j) (e := e) (by rw [List.getElem?_eq_getElem hj, hg])
      exact ⟨t, b, List.mem_of_getElem? g1, g2, g3⟩
    have hst : FreeSt w w1 E clock fs sp mb w.heap.size N i E.size := by
      refine ⟨⟨#[], clock, by rw [← hw1]; exact heap_alloc_new w _, Nat.le_refl _, by rw [leftOf]; exact Array.size_filter_le, by rw [← hw1, heap_alloc_old _ _ hmlt]; exact hE, ?_, fun e he t b hk hv => ?_⟩, by rw [← hw1]; exact Only.alloc w _ _⟩
      · rw [← hw1]; exact h1.alloc _
      · obtain ⟨t', b', hm', hk', hv'⟩ := hmem e he
        rw [hk'] at hk
        rw [hv'] at hv
        obtain rfl : t' = t := by simpa using hk
        obtain rfl : b' = b := by simpa using hv
        have hb := (h7 t' b' hm').1
        rw [← hw1]
        simpa using hb.alloc _
    have HST := hid hst
    have HSZ : Hid (w1.heap.size = w.heap.size + 1) := by rw [← hw1]; simp [Hid]
    have H := hid (⟨h1, h2, h3, h4, h5, h6, h7, h8⟩ : Blk w sp #[.map (some mb)] 60 ∧ MapB w mb ks ∧ (ks.map (·.1)).Nodup ∧ (ks.map (·.2)).Nodup ∧ fs sp ∧ fs mb ∧ (∀ k b, (k, b) ∈ ks → Blk w b (cells32 (N k)) 47 ∧ fs b) ∧ ∀ k, klook ks k = none → ∀ i, i < 32 → N k i = 0)
    have HE := hid (⟨hE, hents, hborn, hnod⟩ : w.heap[mb]? = some (.map E clock) ∧ ents E.toList ks ∧ (∀ e ∈ E.toList, e.born < clock) ∧ (E.toList.map (·.born)).Nodup)
    have HMEM := hid hmem
    have HLT := hid hlt
    rw [hw1] at hr
    clear hst h1 h2 h3 h4 h5 h6 h7 h8 h hE hents hborn hnod hmem hlt hw1 hm hx
    go_enter Try.func11, Try.ntmps11
    go_wp2_with fail
    refine (gates_may 1 i w).mono ?_
    rintro e w' ⟨rfl, rfl⟩
    rw [HM.out]
    go_wp2_with fail
    go_loopg [5] E.size (fun k v wr => Hid (FreeSt w wr E clock fs sp mb w.heap.size N i k))
    case atStart => exact HST
    case round =>
      obtain ⟨seen, c1, g1, g2, g3, g4, g5, g6⟩ := hrel.out.ex
      have hon := hrel.out.only
      obtain ⟨hE, hents, hborn, hnod⟩ := HE.out
      have hitlt : w.heap.size < wr.heap.size := by
        rcases Nat.lt_or_ge w.heap.size wr.heap.size with h' | h'
        · exact h'
        · simp [Array.getElem?_eq_none h'] at g1
      rcases run_next_at (P := Try.prog) wr 0 w.heap.size mb clock c1 seen E clock g1 g4 hborn g2 with ⟨hl0, hnx⟩ | ⟨e, he, w2, hw2, hnx⟩
      · have hfin : SlotsNext w wr fs sp (freeN N i) fs := by
          obtain ⟨h1, h2, h3, h4, h5, h6, h7, h8⟩ := H.out
          refine ⟨⟨mb, ks, g5, ⟨E, clock, g4, hents, hborn, hnod⟩, h3, h4, h5, h6, fun t b hb => ⟨?_, (h7 t b hb).2⟩, fun t ht j hj => ?_⟩, hon, fun g hg => .inl hg⟩
          · have hl := ents_length hents
            obtain ⟨j, hj, hg⟩ := List.getElem_of_mem hb
            have hjE : j < E.toList.length := by omega
            obtain ⟨t', b', q1, q2, q3⟩ := ents_get hents (j := j) (e := E.toList[j]) (List.getElem?_eq_getElem hjE)
            rw [List.getElem?_eq_getElem hj, hg] at q1
            obtain ⟨rfl, rfl⟩ := Prod.mk.inj (Option.some.inj q1)
            have hall := g6 E.toList[j] (List.getElem_mem _) t b q2 q3
            have hseen : seen.contains (E.toList[j]).born = true := by
              have h0 : leftOf E seen = #[] := Array.eq_empty_of_size_eq_zero hl0
              have h1 : ¬ (E.toList[j] ∈ (leftOf E seen).toList) := by rw [h0]; simp
              simp only [leftOf, Array.toList_filter, List.mem_filter, not_and] at h1
              have := h1 (List.getElem_mem _)
              simpa using this
            have he2 : cells32 (fun q => if q = i ∧ seen.contains (E.toList[j]).born = true then 0 else N t q) = cells32 (freeN N i t) := by
              congr 1
              funext q
              simp only [freeN, hseen, and_true]
            rw [← he2]
            exact hall
          · unfold freeN
            split
            · rfl
            · exact h8 t ht j hj
        have HFIN := hid hfin
        clear hfin g1 g2 g3 g4 g5 g6 hl0 hon hE hents hborn hnod
        go_wp2_with fail
        go_end0
        exact ⟨rfl, HFIN.out⟩
      · have heE : e ∈ E.toList := by
          simp only [leftOf, Array.toList_filter, List.mem_filter] at he
          exact he.1
        obtain ⟨t, b, hm, hk, hv⟩ := HMEM.out e heE
        rcases gk with _ | m
        · exfalso
          rw [Array.eq_empty_of_size_eq_zero (Nat.le_zero.1 g3)] at he
          simp at he
        · have hheap : w2.heap = wr.heap ∧ w2.os = wr.os ∧ w2.tape = wr.tape ∧ w2.output = wr.output := by rcases hw2 with rfl | rfl <;> exact ⟨rfl, rfl, rfl, rfl⟩
          obtain ⟨u1, u2, u3, u4⟩ := hheap
          obtain ⟨w3, hw3⟩ : ∃ w3, setBlock w2 w.heap.size (.mapIter (some mb) clock (seen.push e.born) clock) = w3 := ⟨_, rfl⟩
          rw [hw3] at hnx
          have hsame : ∀ g, g ≠ w.heap.size → w3.heap[g]? = wr.heap[g]? := fun g hg => by
            have hne : w.heap.size ≠ g := fun e => hg e.symm
            rw [← hw3]
            simp [setBlock, Array.getElem?_setIfInBounds, hne, u1]
          have hit3 : w3.heap[w.heap.size]? = some (.mapIter (some mb) clock (seen.push e.born) clock) := by
            rw [← hw3]
            simp [setBlock, u1, hitlt]
          have hs3 : w3.heap.size = wr.heap.size := by rw [← hw3]; simp [setBlock, u1]
          have kp : ∀ {b : Nat} {cs : Array Value} {T : TypeId}, b ≠ w.heap.size → Blk wr b cs T → Blk w3 b cs T := fun {b cs T} hne hb => by
            unfold Blk at hb ⊢
            rw [hsame b hne, hb]
          have hmne : mb ≠ w.heap.size := by omega
          have hsne : sp ≠ w.heap.size := by omega
          have hbne : ∀ t b, (t, b) ∈ ks → b ≠ w.heap.size := fun t b hb => by have := HLT.out b (H.out.2.2.2.2.2.2.1 t b hb).2; omega
          have hen := run_entry_at (P := Try.prog) w3 w.heap.size mb clock seen E clock e hit3 (by rw [hsame mb hmne]; exact g4) heE hnod
          rw [hk, hv] at hnx hen
          have hcur := kp (hbne t b hm) (g6 e heE t b hk hv)
          have q1 := (hcur.cell i).trans (cells32_get _ i hi)
          have q2 := hcur.free i
          have hst : FreeSt w (w3.setCell ⟨b, i, none⟩ (.int .u64 0)) E clock fs sp mb w.heap.size N i m := by
            obtain ⟨h1, h2, h3, h4, h5, h6, h7, h8⟩ := H.out
            have hbm : b ≠ mb := fun e => by
              have := (h7 t b hm).1
              unfold Blk at this
              rw [e, hE] at this
              cases this
            have hbs : b ≠ sp := fun e => by
              have h9 := (h7 t b hm).1
              unfold Blk at h9 h1
              rw [e, h1] at h9
              have := congrArg (fun o => match o with | some (Obj.cells c _ _) => c.size | _ => 0) h9
              simp [cells32_size] at this
            have hlt' := left_less E seen e he
            refine ⟨⟨seen.push e.born, clock, ?_, Nat.le_refl _, by omega, ?_, (kp hsne g5).apart' ⟨b, i, none⟩ hbs _, fun e' he' t' b' hk' hv' => ?_⟩, ?_⟩
            · rw [heap_setCell_other _ _ _ _ (by show w.heap.size ≠ b; exact fun e => hbne t b hm e.symm)]
              exact hit3
            · rw [heap_setCell_other _ _ _ _ (by show mb ≠ b; exact fun e => hbm e.symm), hsame mb hmne]
              exact g4
            · obtain ⟨t2, b2, hm2, hk2, hv2⟩ := HMEM.out e' he'
              rw [hk2] at hk'
              rw [hv2] at hv'
              obtain rfl : t2 = t' := by simpa using hk'
              obtain rfl : b2 = b' := by simpa using hv'
              have hold := kp (hbne t2 b2 hm2) (g6 e' he' t2 b2 hk2 hv2)
              by_cases hee : e' = e
              · subst hee
                rw [hk] at hk2
                rw [hv] at hv2
                obtain rfl : t = t2 := by simpa using hk2
                obtain rfl : b = b2 := by simpa using hv2
                have h10 := hold.set' i (.int .u64 0)
                rw [cells32_set] at h10
                have h11 : cells32 (fun k => if k = i then 0 else if k = i ∧ seen.contains e'.born = true then 0 else N t k) = cells32 (fun q => if q = i ∧ (seen.push e'.born).contains e'.born = true then 0 else N t q) := by
                  congr 1
                  funext q
                  by_cases hq : q = i <;> simp [hq]
                rw [← h11]
                exact h10
              · have hb2 : b2 ≠ b := fun e2 => by
                  subst e2
                  have h12 := nodup_inj (·.2) ks h4 _ _ hm2 hm rfl
                  have h13 : t2 = t := (Prod.mk.inj h12).1
                  subst h13
                  apply hee
                  have h14 := ents_length hents
                  obtain ⟨j, hj, hg⟩ := List.getElem_of_mem he'
                  obtain ⟨j', hj', hg'⟩ := List.getElem_of_mem heE
                  obtain ⟨ta, ba, y1, y2, y3⟩ := ents_get hents (j := j) (e := e') (by rw [List.getElem?_eq_getElem hj, hg])
                  obtain ⟨tb, bb, z1, z2, z3⟩ := ents_get hents (j := j') (e := e) (by rw [List.getElem?_eq_getElem hj', hg'])
                  rw [hk2] at y2
                  rw [hk] at z2
                  obtain rfl : t2 = ta := by simpa using y2
                  obtain rfl : t2 = tb := by simpa using z2
                  have e1 : (ks.map (·.1))[j]? = some t2 := by rw [List.getElem?_map, y1]; rfl
                  have e2 : (ks.map (·.1))[j']? = some t2 := by rw [List.getElem?_map, z1]; rfl
                  obtain ⟨l1, p1⟩ := List.getElem?_eq_some_iff.1 e1
                  obtain ⟨l2, p2⟩ := List.getElem?_eq_some_iff.1 e2
                  have h3' := List.nodup_iff_pairwise_ne.1 h3
                  have hjj : j = j' := by
                    rcases Nat.lt_trichotomy j j' with hlt | heq | hlt
                    · exact absurd (p1.trans p2.symm) ((List.pairwise_iff_getElem.1 h3') j j' l1 l2 hlt)
                    · exact heq
                    · exact absurd (p2.trans p1.symm) ((List.pairwise_iff_getElem.1 h3') j' j l2 l1 hlt)
                  subst hjj
                  rw [← hg, ← hg']
                have h10 := hold.apart' ⟨b, i, none⟩ (fun e => hb2 e.symm) (.int .u64 0)
                have h11 : cells32 (fun q => if q = i ∧ seen.contains e'.born = true then 0 else N t2 q) = cells32 (fun q => if q = i ∧ (seen.push e.born).contains e'.born = true then 0 else N t2 q) := by
                  have hne : (e'.born == e.born) = false := by
                    rw [beq_eq_false_iff_ne]
                    exact fun e2 => hee (born_inj E.toList hnod e' e he' heE e2)
                  congr 1
                  funext q
                  simp only [Array.contains_push, hne, Bool.or_false]
                rw [← h11]
                exact h10
            · refine ⟨by rw [← hon.os, ← u2, ← hw3]; rfl, by rw [← hon.tape, ← u3, ← hw3]; rfl, by rw [← hon.output, ← u4, ← hw3]; rfl, by have := hon.size; simp [World.setCell, hs3]; exact this, fun g hg hn => ?_⟩
              rw [heap_setCell_other _ _ _ _ (by show g ≠ b; exact fun e => hn (e ▸ (h7 t b hm).2)), hsame g (by omega)]
              exact hon.same g hg hn
          have HST2 := hid hst
          clear hst g1 g2 g3 g4 g5 g6 hon hE hents hborn hnod he heE hm hk hv hw2 u1 u2 u3 u4 hw3 hsame hit3 hs3 kp hmne hsne hbne hcur
          go_wp2_with fail
          go_roundg m
          case measure => omega
          case rel => exact HST2
  · have hm : mayB 1 x = false := by simpa using hm
    rw [hm]
    have HM := hid hm
    have H := hid h
    clear hm h
    go_enter Try.func11, Try.ntmps11
    go_wp2_with fail
    refine (gates_may 1 x w).mono ?_
    rintro e w' ⟨rfl, rfl⟩
    rw [HM.out]
    go_wp2_with fail
    exact bodyPost_ret (v := .tuple #[]) (by simp [results, Try.results11, go_sem]) rfl ⟨rfl, H.out, Only.refl _ _, fun g hg => .inl hg⟩
end Go.Proofs.Ytnbhmcbhpkjgcaa
