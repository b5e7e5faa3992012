/- slipwayref1.Head, walked. -/
import Derived.Test.YtajcihcbgmpdjaaRefHeadP
import Derived.Test.YtajcihcbgmpdjaaParse
import Derived.Test.YtajcihcbgmpdjaaRefNum
import Derived.Test.YtajcihcbgmpdjaaRound2
import Derived.Outline
import Derived.Deep.WholeRow
import Derived.Great.BuildSlice
set_option linter.unusedVariables false
namespace Go.Proofs.Ytajcihcbgmpdjaa
open Go.RowKit

attribute [-go_sem] storeVar
theorem infoSect6 : (Try.prog.info? 37).map (·.size) = some 6 := by kernel_rfl
theorem infoSects1 : (Try.prog.info? 30).map (·.size) = some 1 := by kernel_rfl
theorem run_sect_new (w : World) (a : ByteArray) (b c d e f : Int) : (storeVar 37 ⟨w.heap.size, 0, none⟩ (.agg #[.string a, .int .i64 b, .int .i64 c, .int .i64 d, .int .i64 e, .int .i64 f])).run Try.prog (w.alloc (.cells #[.string ⟨#[]⟩, .int .i64 0, .int .i64 0, .int .i64 0, .int .i64 0, .int .i64 0] 37)) = .ok () (w.alloc (.cells #[.string a, .int .i64 b, .int .i64 c, .int .i64 d, .int .i64 e, .int .i64 f] 37)) :=
  run_storeVar_new w 37 #[.string ⟨#[]⟩, .int .i64 0, .int .i64 0, .int .i64 0, .int .i64 0, .int .i64 0] #[.string a, .int .i64 b, .int .i64 c, .int .i64 d, .int .i64 e, .int .i64 f] infoSect6 (by rfl) (by simp [Value.oneCell'])
theorem run_slice_one {P : Program} (t : TypeId) (hi : (P.info? t).map (·.size) = some 1) (w : World) (g o n c : Nat) (a : Option Addr) (h : (w.cell? ⟨g, o, none⟩).isSome = true) (hf : w.frozen? ⟨g, o, none⟩ = false) : (storeVar t ⟨g, o, none⟩ (.slice a n c)).run P w = .ok () (w.setCell ⟨g, o, none⟩ (.slice a n c)) := by
  obtain ⟨u, hu⟩ := Option.isSome_iff_exists.1 h
  obtain ⟨i0, hi0, hz⟩ := Option.map_eq_some_iff.1 hi
  simp [storeVar, storeCells, sizeOf, typeInfo, hi0, hz, hu, hf, Value.cells, run_store_slice, stored, Addr.add]
theorem run_secs (w : World) (g n c : Nat) (a : Option Addr) (h : (w.cell? ⟨g, 38, none⟩).isSome = true) (hf : w.frozen? ⟨g, 38, none⟩ = false) : (storeVar 30 ⟨g, 38, none⟩ (.slice a n c)).run Try.prog w = .ok () (w.setCell ⟨g, 38, none⟩ (.slice a n c)) :=
  run_slice_one _ infoSects1 w g 38 n c a h hf
theorem built_sect (s : ByteArray) (b c d e f : Int) : Try.prog.built 37 [(0, .string s), (1, .int .i64 b), (2, .int .i64 c), (3, .int .i64 d), (4, .int .i64 e), (5, .int .i64 f)] = some #[.string s, .int .i64 b, .int .i64 c, .int .i64 d, .int .i64 e, .int .i64 f] := by kernel_rfl
theorem run_build_sect (w : World) (s : ByteArray) (b c d e f : Int) : (Instr.build 37 #[(0, .string s), (1, .int .i64 b), (2, .int .i64 c), (3, .int .i64 d), (4, .int .i64 e), (5, .int .i64 f)]).run Try.prog w = .ok (.agg #[.string s, .int .i64 b, .int .i64 c, .int .i64 d, .int .i64 e, .int .i64 f]) w :=
  run_build w _ _ _ (built_sect s b c d e f)
theorem fill_sect (s : ByteArray) (b c d e f : Int) : Instr.fill (fun i => some (i * 6, 6)) ((Array.range (1 * 6)).map ((Value.agg #[.string ⟨#[]⟩, .int .i64 0, .int .i64 0, .int .i64 0, .int .i64 0, .int .i64 0]).cells[· % (Value.agg #[.string ⟨#[]⟩, .int .i64 0, .int .i64 0, .int .i64 0, .int .i64 0, .int .i64 0]).cells.size]!)) [(0, .agg #[.string s, .int .i64 b, .int .i64 c, .int .i64 d, .int .i64 e, .int .i64 f])] = some #[.string s, .int .i64 b, .int .i64 c, .int .i64 d, .int .i64 e, .int .i64 f] := by kernel_rfl
theorem run_buildSlice_sect (w : World) (s : ByteArray) (b c d e f : Int) : (Instr.buildSlice 30 1 #[(0, .agg #[.string s, .int .i64 b, .int .i64 c, .int .i64 d, .int .i64 e, .int .i64 f])]).run Try.prog w = .ok (.slice (some ⟨w.heap.size, 0, none⟩) 1 1) (w.alloc (.cells #[.string s, .int .i64 b, .int .i64 c, .int .i64 d, .int .i64 e, .int .i64 f] 37)) := by
  obtain ⟨i0, hi0, hz0, hz1, hz2⟩ := info_parts infoSect
  refine run_buildSlice w _ 37 1 _ _ i0 _ Try.underlying30 hi0 hz0 (by rw [hz1]; omega) (by rw [hz1]; omega) ?_
  rw [hz1]
  exact fill_sect s b c d e f
theorem build_head : type_of% (Instr.build.eq_1 32) := Instr.build.eq_1 _
theorem build_dir : type_of% (Instr.build.eq_1 28) := Instr.build.eq_1 _
attribute [-go_sem] Instr.build Instr.buildSlice
attribute [local go_sem] storeVar_dir run_sect_new run_secs run_build_sect run_buildSlice_sect build_head build_dir

/-- The blocks that stay: the result's, that of none. -/
structure RH (w : World) (g1 g2 : Nat) : Prop where
  a : Blk w g1 headZ 32
  z : Blk w g2 headZ 32
theorem RH.below {w w' : World} {g1 g2 : Nat} (h : RH w g1 g2) (hb : Below w.heap.size w w') : RH w' g1 g2 := ⟨h.a.below hb, h.z.below hb⟩

/-- One section more in the head. -/
theorem rh_step {w wc w1 : World} {NB g1 g2 g8 j : Nat} {bs st ch en sz hr : Int} {d : Nat → Int} {fv v1 : Value} {cs cs1 : List Value} {o : Obj} (h1 : g1 < NB) (h2 : g2 < NB) (h8 : g8 < NB) (n1 : g8 ≠ g1) (n2 : g8 ≠ g2) (hw : w.heap.size ≤ g8) (hs : NB ≤ wc.heap.size)
    (hX : RH wc g1 g2) (hE : Blk wc g8 (headV bs st ch en sz hr d fv) 32) (hF : wc.ownsRow NB 37 6 fv j cs) (hU : Below w.heap.size w wc) (hg : (wc.alloc o).grownBy w1 fv.ownBlock) (hown : w1.ownsRow NB 37 6 v1 (j + 1) cs1) :
    Blk w1 g8 (headV bs st ch en sz hr d fv) 32 ∧ RH (w1.setCell ⟨g8, 38, none⟩ v1) g1 g2 ∧ Blk (w1.setCell ⟨g8, 38, none⟩ v1) g8 (headV bs st ch en sz hr d v1) 32 ∧ (w1.setCell ⟨g8, 38, none⟩ v1).ownsRow NB 37 6 v1 (j + 1) cs1 ∧
      Below w.heap.size w (w1.setCell ⟨g8, 38, none⟩ v1) ∧ NB ≤ (w1.setCell ⟨g8, 38, none⟩ v1).heap.size := by
  have hlt : ∀ k, fv.ownBlock = some k → NB ≤ k := fun k hk => (hF.lt k hk).1
  have far : ∀ {g : Nat}, g < NB → some g ≠ fv.ownBlock := fun {g} hgN e => by have := hlt g e.symm; omega
  have e1 := (hE.alloc o).grown hg (far h8)
  have s1 := hg.size
  simp at s1
  have u1 : Below w.heap.size w w1 := (up_alloc hU o).grown hg (by have := hU.size; simp; omega) (fun k hk => by have := hlt k hk; omega)
  have e2 : Blk (w1.setCell ⟨g8, 38, none⟩ v1) g8 (headV bs st ch en sz hr d v1) 32 := e1.set 38 v1
  exact ⟨e1, ⟨((hX.a.alloc o).grown hg (far h1)).apart _ n1 _, ((hX.z.alloc o).grown hg (far h2)).apart _ n2 _⟩, e2, own_set hown (p := ⟨g8, 38, none⟩) h8 _, u1.setCell (p := ⟨g8, 38, none⟩) hw _, by simp [World.setCell]; omega⟩

set_option maxRecDepth 100000 in
set_option maxHeartbeats 40000000 in
theorem ref_Head (l : List UInt8) (w : World) (hm : l.length ≤ 140737488351232) :
    Calls Try.prog 15 #[.string (S l)] w fun e w' => ParseOk (parseF l) w e w' := by
  obtain ⟨R, hR⟩ : ∃ r, parseF l = r := ⟨_, rfl⟩
  rw [hR]
  have HR := hid hR
  clear hR
  have hsz := S_size l
  obtain ⟨g1, hg1⟩ : ∃ g, w.heap.size = g := ⟨_, rfl⟩
  obtain ⟨w1, hw1⟩ : ∃ w1, w.alloc (.cells #[.int .u64 0, .int .i64 0, .int .i64 0, .int .i64 0, .int .i64 0, .int .i64 0, .int .i64 0, .int .i64 0, .int .i64 0, .int .i64 0, .int .i64 0, .int .i64 0, .int .i64 0, .int .i64 0, .int .i64 0, .int .i64 0, .int .i64 0, .int .i64 0, .int .i64 0, .int .i64 0, .int .i64 0, .int .i64 0, .int .i64 0, .int .i64 0, .int .i64 0, .int .i64 0, .int .i64 0, .int .i64 0, .int .i64 0, .int .i64 0, .int .i64 0, .int .i64 0, .int .i64 0, .int .i64 0, .int .i64 0, .int .i64 0, .int .i64 0, .int .i64 0, .slice none 0 0] 32) = w1 := ⟨_, rfl⟩
  have A1 : Blk w1 g1 headZ 32 := hg1 ▸ hw1 ▸ Blk.new _ _ _
  have u1 : Below w.heap.size w w1 := hw1 ▸ up_alloc (up_refl _) _
  obtain ⟨g2, hg2⟩ : ∃ g, w1.heap.size = g := ⟨_, rfl⟩
  obtain ⟨w2, hw2⟩ : ∃ w2, w1.alloc (.cells #[.int .u64 0, .int .i64 0, .int .i64 0, .int .i64 0, .int .i64 0, .int .i64 0, .int .i64 0, .int .i64 0, .int .i64 0, .int .i64 0, .int .i64 0, .int .i64 0, .int .i64 0, .int .i64 0, .int .i64 0, .int .i64 0, .int .i64 0, .int .i64 0, .int .i64 0, .int .i64 0, .int .i64 0, .int .i64 0, .int .i64 0, .int .i64 0, .int .i64 0, .int .i64 0, .int .i64 0, .int .i64 0, .int .i64 0, .int .i64 0, .int .i64 0, .int .i64 0, .int .i64 0, .int .i64 0, .int .i64 0, .int .i64 0, .int .i64 0, .int .i64 0, .slice none 0 0] 32) = w2 := ⟨_, rfl⟩
  have A2 : Blk w2 g2 headZ 32 := hg2 ▸ hw2 ▸ Blk.new _ _ _
  have u2 : Below w1.heap.size w1 w2 := hw2 ▸ up_alloc (up_refl _) _
  have n21 : g2 ≠ g1 := by have := A1.lt; omega
  have GE : Hid (w.heap.size ≤ g1) := hid (Nat.le_of_eq hg1)
  have hg12 : g1 ≤ g2 := by have := A1.lt; omega
  obtain ⟨w3, hw3⟩ : ∃ w3, w2.setRow g2 headZ = w3 := ⟨_, rfl⟩
  have X3 : Hid (RH w3 g1 g2) := hid ⟨hw3 ▸ (A1.below u2).setRow_far n21 _, hw3 ▸ A2.setRow _⟩
  have U3 : Hid (Below w.heap.size w w3) := hid (hw3 ▸ below_setRow (up_trans u1 u2) _ (by omega) _)
  have HA2 := hid A2
  clear A1 u1 A2 u2
  by_cases h64 : l.length < 64
  · have hr : R = .error 2 := by rw [← HR.out, parseF, startE, if_pos h64]; rfl
    have HRN := hid hr
    have hd : decide ((l.length : Int) < 64) = true := decide_eq_true (by omega)
    clear h64 hr
    go_enter Try.func15, Try.ntmps15
    go_wp2_with (first | refine wpList_store_row (by rfl) 32 (.tmp 4) (.tmp 18) (by rfl) g2 headZ (by rfl) (by rfl) 32 headZ HA2.out headInfo (by rfl) (headV_one _ _ _ _ _ _ _ _ rfl) ?_ | refine wpList_load_row (by rfl) 32 (.tmp 4) (by rfl) g2 (by rfl) 32 headZ (0, 0) _ X3.out.z Try.underlying32 (by rfl) headInfo ?_ | refine wpList_store_row (by rfl) 32 (.tmp 2) (.tmp 22) (by rfl) g1 headZ (by rfl) (by rfl) 32 headZ X3.out.a headInfo (by rfl) (headV_one _ _ _ _ _ _ _ _ rfl) ?_)
    rw [HRN.out]
    exact bodyPost_ret (v := .tuple #[.agg headZ, .int .i64 2]) (results_ct Try.results15 _ _ g1 32 headZ _ (by rfl) (X3.out.a.setRow _) Try.underlying32 (by rfl) headInfo) rfl ⟨below_setRow U3.out _ GE.out _, rfl⟩
  · have hd : decide ((l.length : Int) < 64) = false := decide_eq_false (by omega)
    have e2 : (S l).extract 0 2 = S (l.take 2) := by simpa using extract_S l 0 2
    obtain ⟨p, hp⟩ : ∃ p, numAt l 60 4 = p := ⟨_, rfl⟩
    have p32 : p < 4294967296 := hp ▸ numAt_lt l 60 4
    have HP := hid hp
    have HI : Hid (∀ (k n : Int) (w : World), n ≤ 4 → Calls Try.prog 30 #[.string (S l), .int .i64 k, .int .i64 n] w fun e w' => e = .returned (.int .i64 (numAt l k n)) ∧ w = w') := hid (fun k n w hn => ref_Int l k n w (by omega) hn)
    have H64 := hid h64
    clear hp
    go_enter Try.func15, Try.ntmps15
    go_upto_region 4 with (refine wpList_store_row (by rfl) 32 (.tmp 4) (.tmp 18) (by rfl) g2 headZ (by rfl) (by rfl) 32 headZ HA2.out headInfo (by rfl) (headV_one _ _ _ _ _ _ _ _ rfl) ?_)
    clear hw1 hw2 hw3 hg2
    by_cases h1 : l.take 2 = [77, 90]
    · have hq : ((S (l.take 2)).toList == [77, 90]) = true := by rw [S_toList, h1]; rfl
      have H1 := hid h1
      have I60 := HI.out 60 4
      rw [HP.out] at I60
      have HI60 := hid I60
      clear h1 I60
      go_wp2_with fail
      refine (HI60.out _ (by omega)).mono ?_
      rintro e w' ⟨rfl, rfl⟩
      obtain ⟨b7, hb7⟩ : ∃ b, decide (p < 64 ∨ p % 4 ≠ 0 ∨ inB l.length p 264 = false) = b := ⟨_, rfl⟩
      have HB7 := hid hb7
      clear hb7 hq e2
      go_upto_region 7 with fail
      go_cut [42] (fun u wb => u = .bool b7 ∧ w3 = wb)
      case first => as_aux_lemma =>
        have HIN := hid (fun w => ref_In l.length p 264 w (by omega) (by omega))
        by_cases k1 : p < 64
        · obtain rfl : true = b7 := by rw [← HB7.out, decide_eq_true (.inl k1)]
          have k1' : decide ((p : Int) < 64) = true := decide_eq_true (by omega)
          clear HB7
          go_wp2_with fail
          go_meet
          exact ⟨rfl, rfl⟩
        · have k1' : decide ((p : Int) < 64) = false := decide_eq_false (by omega)
          by_cases k2 : p % 4 = 0
          · have k2' : (((p : Int) % 4) != 0) = false := by rw [bne_eq_false_iff_eq]; omega
            cases k3 : inB l.length p 264 with
            | false =>
              rw [k3] at HIN
              obtain rfl : true = b7 := by rw [← HB7.out, decide_eq_true (.inr (.inr k3))]
              clear HB7 k3
              go_wp2_with fail
              refine (HIN.out _).mono ?_
              rintro e w' ⟨rfl, rfl⟩
              go_wp2_with fail
              go_meet
              exact ⟨rfl, rfl⟩
            | true =>
              rw [k3] at HIN
              obtain rfl : false = b7 := by
                rw [← HB7.out, decide_eq_false]
                rintro (h | h | h)
                · exact k1 h
                · exact h k2
                · rw [k3] at h; cases h
              clear HB7 k3
              go_wp2_with fail
              refine (HIN.out _).mono ?_
              rintro e w' ⟨rfl, rfl⟩
              go_wp2_with fail
              go_meet
              exact ⟨rfl, rfl⟩
          · have k2' : (((p : Int) % 4) != 0) = true := by rw [bne_iff_ne]; omega
            obtain rfl : true = b7 := by rw [← HB7.out, decide_eq_true (.inr (.inl k2))]
            clear HB7
            go_wp2_with fail
            go_meet
            exact ⟨rfl, rfl⟩
      case rest =>
        obtain ⟨rfl, rfl⟩ := hcut
        cases b7
        case true =>
          have HRN : Hid (R = .error 2) := hid (by
            have h : startE l = 2 := by rw [startE, if_neg H64.out, if_neg (by simp [H1.out]), HP.out, if_pos (of_decide_eq_true HB7.out)]
            rw [← HR.out, parseF, h]
            rfl)
          go_wp2_with (first | refine wpList_load_row (by rfl) 32 (.tmp 4) (by rfl) g2 (by rfl) 32 headZ (0, 0) _ X3.out.z Try.underlying32 (by rfl) headInfo ?_ | refine wpList_store_row (by rfl) 32 (.tmp 2) (.tmp 43) (by rfl) g1 headZ (by rfl) (by rfl) 32 headZ X3.out.a headInfo (by rfl) (headV_one _ _ _ _ _ _ _ _ rfl) ?_)
          rw [HRN.out]
          exact bodyPost_ret (v := .tuple #[.agg headZ, .int .i64 2]) (results_ct Try.results15 _ _ g1 32 headZ _ (by rfl) (X3.out.a.setRow _) Try.underlying32 (by rfl) headInfo) rfl ⟨below_setRow U3.out _ GE.out _, rfl⟩
        case false =>
          have hnb := of_decide_eq_false HB7.out
          have g1' : ¬ p < 64 := fun h => hnb (.inl h)
          have g3' : inB l.length p 264 = true := by
            cases h : inB l.length p 264 with
            | true => rfl
            | false => exact absurd (.inr (.inr h)) hnb
          have g4' : p + 264 ≤ l.length := by simp only [inB, decide_eq_true_eq] at g3'; omega
          have e3 : (S l).extract p (p + 4) = S ((l.drop p).take 4) := by
            have := extract_S l p (p + 4)
            rwa [Nat.add_sub_cancel_left] at this
          have HNB := hid hnb
          obtain ⟨m, hmm⟩ : ∃ m, (l.drop p).take 4 = m := ⟨_, rfl⟩
          rw [hmm] at e3
          have HMM := hid hmm
          have hst : startE l = if m ≠ [80, 69, 0, 0] then 3 else 0 := by
            rw [startE, if_neg H64.out, if_neg (by simp [H1.out]), HP.out, if_neg HNB.out, HMM.out]
          have HST := hid hst
          clear hnb g3' hmm hst HB7 HI60
          by_cases h3 : m = [80, 69, 0, 0]
          · have hq2 : ((S m).toList == [80, 69, 0, 0]) = true := by rw [S_toList, h3]; rfl
            have hs0 : startE l = 0 := by rw [HST.out, if_neg (by simp [h3])]
            have hrf : R = if formsE l p ≠ 0 then .error (formsE l p) else parse2 l p := by rw [← HR.out, parseF, if_neg (by simp [hs0]), HP.out]
            have HRF := hid hrf
            clear hs0 hrf h3 HST
            go_wp2_with fail
            refine (HI.out _ _ _ (by omega)).mono ?_
            rintro e w' ⟨rfl, rfl⟩
            clear hq2 e3
            obtain ⟨x4, hx4⟩ : ∃ x, numAt l ((p : Int) + 4) 2 = x := ⟨_, rfl⟩
            rw [hx4]
            have EX4 := hid hx4
            clear hx4
            by_cases f4 : x4 = 34404
            · have k4 : ((x4 : Int) != 34404) = false := by rw [bne_eq_false_iff_eq]; omega
              obtain ⟨x20, hx20⟩ : ∃ x, numAt l ((p : Int) + 20) 2 = x := ⟨_, rfl⟩
              have I20 := HI.out ((p : Int) + 20) 2
              rw [hx20] at I20
              have HI20 : Hid (∀ w, Calls Try.prog 30 #[.string (S l), .int .i64 ((p : Int) + 20), .int .i64 2] w fun e w' => e = .returned (.int .i64 x20) ∧ w = w') := hid (fun w => I20 w (by omega))
              have Ex20 := hid hx20
              clear I20 hx20
              obtain ⟨x24, hx24⟩ : ∃ x, numAt l ((p : Int) + 24) 2 = x := ⟨_, rfl⟩
              have I24 := HI.out ((p : Int) + 24) 2
              rw [hx24] at I24
              have HI24 : Hid (∀ w, Calls Try.prog 30 #[.string (S l), .int .i64 ((p : Int) + 24), .int .i64 2] w fun e w' => e = .returned (.int .i64 x24) ∧ w = w') := hid (fun w => I24 w (by omega))
              have Ex24 := hid hx24
              clear I24 hx24
              obtain ⟨x132, hx132⟩ : ∃ x, numAt l ((p : Int) + 132) 4 = x := ⟨_, rfl⟩
              have I132 := HI.out ((p : Int) + 132) 4
              rw [hx132] at I132
              have HI132 : Hid (∀ w, Calls Try.prog 30 #[.string (S l), .int .i64 ((p : Int) + 132), .int .i64 4] w fun e w' => e = .returned (.int .i64 x132) ∧ w = w') := hid (fun w => I132 w (by omega))
              have Ex132 := hid hx132
              clear I132 hx132
              obtain ⟨b13, hb13⟩ : ∃ b, decide (x20 ≠ 240 ∨ x24 ≠ 523 ∨ x132 ≠ 16) = b := ⟨_, rfl⟩
              have HB13 := hid hb13
              have F4 := hid f4
              clear hb13 f4
              go_upto_region 13 with fail
              go_cut [75] (fun u wb => u = .bool b13 ∧ w3 = wb)
              case first => as_aux_lemma =>
                rcases forms_cases x20 x24 x132 with ⟨q0, hb⟩ | ⟨q0, q1, hb⟩ | ⟨q0, q1, q2, hb⟩ | ⟨q0, q1, q2, hb⟩
                · obtain rfl : true = b13 := by rw [← HB13.out, decide_eq_true hb]
                  clear HB13 hb
                  go_wp2_with (first | ((with_reducible refine (HI20.out _).mono ?_); rintro e w' ⟨rfl, rfl⟩) | ((with_reducible refine (HI24.out _).mono ?_); rintro e w' ⟨rfl, rfl⟩) | ((with_reducible refine (HI132.out _).mono ?_); rintro e w' ⟨rfl, rfl⟩))
                  go_meet
                  exact ⟨rfl, rfl⟩
                · obtain rfl : true = b13 := by rw [← HB13.out, decide_eq_true hb]
                  clear HB13 hb
                  go_wp2_with (first | ((with_reducible refine (HI20.out _).mono ?_); rintro e w' ⟨rfl, rfl⟩) | ((with_reducible refine (HI24.out _).mono ?_); rintro e w' ⟨rfl, rfl⟩) | ((with_reducible refine (HI132.out _).mono ?_); rintro e w' ⟨rfl, rfl⟩))
                  go_meet
                  exact ⟨rfl, rfl⟩
                · obtain rfl : true = b13 := by rw [← HB13.out, decide_eq_true hb]
                  clear HB13 hb
                  go_wp2_with (first | ((with_reducible refine (HI20.out _).mono ?_); rintro e w' ⟨rfl, rfl⟩) | ((with_reducible refine (HI24.out _).mono ?_); rintro e w' ⟨rfl, rfl⟩) | ((with_reducible refine (HI132.out _).mono ?_); rintro e w' ⟨rfl, rfl⟩))
                  go_meet
                  exact ⟨rfl, rfl⟩
                · obtain rfl : false = b13 := by rw [← HB13.out, decide_eq_false hb]
                  clear HB13 hb
                  go_wp2_with (first | ((with_reducible refine (HI20.out _).mono ?_); rintro e w' ⟨rfl, rfl⟩) | ((with_reducible refine (HI24.out _).mono ?_); rintro e w' ⟨rfl, rfl⟩) | ((with_reducible refine (HI132.out _).mono ?_); rintro e w' ⟨rfl, rfl⟩))
                  go_meet
                  exact ⟨rfl, rfl⟩
              case rest =>
                obtain ⟨rfl, rfl⟩ := hcut
                have hfo : formsE l p = if x20 ≠ 240 ∨ x24 ≠ 523 ∨ x132 ≠ 16 then 5 else 0 := by
                  rw [formsE, EX4.out, Ex20.out, Ex24.out, Ex132.out, if_neg (by have := F4.out; omega)]
                have HFO := hid hfo
                clear hfo k4 HI20 HI24 HI132
                cases b13
                case true =>
                  have HRN : Hid (R = .error 5) := hid (by
                    have h : formsE l p = 5 := by rw [HFO.out, if_pos (of_decide_eq_true HB13.out)]
                    rw [HRF.out, h]
                    rfl)
                  go_wp2_with (first | refine wpList_load_row (by rfl) 32 (.tmp 4) (by rfl) g2 (by rfl) 32 headZ (0, 0) _ X3.out.z Try.underlying32 (by rfl) headInfo ?_ | refine wpList_store_row (by rfl) 32 (.tmp 2) (.tmp 76) (by rfl) g1 headZ (by rfl) (by rfl) 32 headZ X3.out.a headInfo (by rfl) (headV_one _ _ _ _ _ _ _ _ rfl) ?_)
                  rw [HRN.out]
                  exact bodyPost_ret (v := .tuple #[.agg headZ, .int .i64 5]) (results_ct Try.results15 _ _ g1 32 headZ _ (by rfl) (X3.out.a.setRow _) Try.underlying32 (by rfl) headInfo) rfl ⟨below_setRow U3.out _ GE.out _, rfl⟩
                case false =>
                  have HR2 : Hid (R = parse2 l p) := hid (by
                    have h : formsE l p = 0 := by rw [HFO.out, if_neg (of_decide_eq_false HB13.out)]
                    rw [HRF.out, h]
                    rfl)
                  clear HFO HRF HB13
                  obtain ⟨hd0, hhd⟩ : ∃ hd, headAt l p [] = hd := ⟨_, rfl⟩
                  have n1 : numAt l ((p : Int) + 48) 8 = hd0.base := by rw [← hhd]; rfl
                  have n2 : numAt l ((p : Int) + 8) 4 = hd0.stamp := by rw [← hhd]; rfl
                  have n3 : numAt l ((p : Int) + 22) 2 = hd0.chars := by rw [← hhd]; rfl
                  have n4 : numAt l ((p : Int) + 40) 4 = hd0.entry := by rw [← hhd]; rfl
                  have n5 : numAt l ((p : Int) + 80) 4 = hd0.size := by rw [← hhd]; rfl
                  have n6 : numAt l ((p : Int) + 84) 4 = hd0.headers := by rw [← hhd]; rfl
                  have bb1 : hd0.base < 18446744073709551616 := by rw [← n1]; exact numAt_lt l _ 8
                  have bb2 : hd0.size < 4294967296 := by rw [← n5]; exact numAt_lt l _ 4
                  have bb3 : hd0.headers < 4294967296 := by rw [← n6]; exact numAt_lt l _ 4
                  have bb4 : hd0.entry < 4294967296 := by rw [← n4]; exact numAt_lt l _ 4
                  have M1 := hid n1
                  have M2 := hid n2
                  have M3 := hid n3
                  have M4 := hid n4
                  have M5 := hid n5
                  have M6 := hid n6
                  have HHD := hid hhd
                  clear hhd n1 n2 n3 n4 n5 n6
                  obtain ⟨bs, hbs⟩ : ∃ z, hd0.base = z := ⟨_, rfl⟩
                  obtain ⟨st, hst⟩ : ∃ z, hd0.stamp = z := ⟨_, rfl⟩
                  obtain ⟨ch, hch⟩ : ∃ z, hd0.chars = z := ⟨_, rfl⟩
                  obtain ⟨en, hen⟩ : ∃ z, hd0.entry = z := ⟨_, rfl⟩
                  obtain ⟨sz, hsz0⟩ : ∃ z, hd0.size = z := ⟨_, rfl⟩
                  obtain ⟨hr, hhr⟩ : ∃ z, hd0.headers = z := ⟨_, rfl⟩
                  rw [hbs] at M1 bb1
                  rw [hst] at M2
                  rw [hch] at M3
                  rw [hen] at M4 bb4
                  rw [hsz0] at M5 bb2
                  rw [hhr] at M6 bb3
                  have HFL := hid (And.intro hbs (And.intro hst (And.intro hch (And.intro hen (And.intro hsz0 hhr)))))
                  clear hbs hst hch hen hsz0 hhr
                  go_wp2_with fail
                  refine (ref_Num l ((p : Int) + 48) 8 _ (by omega) (by omega)).mono ?_
                  rintro e w' ⟨rfl, rfl⟩
                  rw [M1.out]
                  go_wp2_with fail
                  refine (HI.out _ _ _ (by omega)).mono ?_
                  rintro e w' ⟨rfl, rfl⟩
                  rw [M2.out]
                  go_wp2_with fail
                  refine (HI.out _ _ _ (by omega)).mono ?_
                  rintro e w' ⟨rfl, rfl⟩
                  rw [M3.out]
                  go_wp2_with fail
                  refine (HI.out _ _ _ (by omega)).mono ?_
                  rintro e w' ⟨rfl, rfl⟩
                  rw [M4.out]
                  go_wp2_with fail
                  refine (HI.out _ _ _ (by omega)).mono ?_
                  rintro e w' ⟨rfl, rfl⟩
                  rw [M5.out]
                  go_wp2_with fail
                  refine (HI.out _ _ _ (by omega)).mono ?_
                  rintro e w' ⟨rfl, rfl⟩
                  rw [M6.out]
                  obtain ⟨g8, hg8⟩ : ∃ g, w3.heap.size = g := ⟨_, rfl⟩
                  obtain ⟨w4, hw4⟩ : ∃ zz, w3.alloc (.cells #[.int .u64 0, .int .i64 0, .int .i64 0, .int .i64 0, .int .i64 0, .int .i64 0, .int .i64 0, .int .i64 0, .int .i64 0, .int .i64 0, .int .i64 0, .int .i64 0, .int .i64 0, .int .i64 0, .int .i64 0, .int .i64 0, .int .i64 0, .int .i64 0, .int .i64 0, .int .i64 0, .int .i64 0, .int .i64 0, .int .i64 0, .int .i64 0, .int .i64 0, .int .i64 0, .int .i64 0, .int .i64 0, .int .i64 0, .int .i64 0, .int .i64 0, .int .i64 0, .int .i64 0, .int .i64 0, .int .i64 0, .int .i64 0, .int .i64 0, .int .i64 0, .slice none 0 0] 32) = zz := ⟨_, rfl⟩
                  have H8 : Hid (Blk w4 g8 headZ 32) := hid (hg8 ▸ hw4 ▸ Blk.new _ _ _)
                  have V4 : Hid (Below w3.heap.size w3 w4) := hid (hw4 ▸ up_alloc (up_refl _) _)
                  have GE8 : Hid (w.heap.size ≤ g8) := hid (by rw [← hg8]; exact U3.out.size)
                  obtain ⟨w5, hw5⟩ : ∃ zz, w4.setRow g8 (headV bs st ch en sz hr (fun _ => 0) (.slice none 0 0)) = zz := ⟨_, rfl⟩
                  have V5 : Hid (Below w3.heap.size w3 w5) := hid (hw5 ▸ below_setRow V4.out _ (by rw [hg8]; exact Nat.le_refl _) _)
                  have X5 := hid (X3.out.below V5.out)
                  have U5 := hid (up_trans U3.out V5.out)
                  have H5 : Hid (Blk w5 g8 (headV bs st ch en sz hr (fun _ => 0) (.slice none 0 0)) 32) := hid (hw5 ▸ H8.out.setRow _)
                  have n81 : g8 ≠ g1 := by have := X3.out.a.lt; omega
                  have n82 : g8 ≠ g2 := by have := X3.out.z.lt; omega
                  go_upto_region 17 with (refine wpList_store_row (by rfl) 32 (.tmp 8) (.tmp 105) (by rfl) g8 (headV bs st ch en sz hr (fun _ => 0) (.slice none 0 0)) (by rfl) (by rfl) 32 headZ H8.out headInfo (by rfl) (headV_one _ _ _ _ _ _ _ _ rfl) ?_)
                  go_frame
                  rw [hw5]
                  clear hw5 hw4 hg8 H8 V4
                  obtain ⟨x56, hx56⟩ : ∃ x, numAt l ((p : Int) + 56) 4 = x := ⟨_, rfl⟩
                  have I56 := HI.out ((p : Int) + 56) 4
                  rw [hx56] at I56
                  have HI56 : Hid (∀ w, Calls Try.prog 30 #[.string (S l), .int .i64 ((p : Int) + 56), .int .i64 4] w fun e w' => e = .returned (.int .i64 x56) ∧ w = w') := hid (fun w => I56 w (by omega))
                  have Ex56 := hid hx56
                  clear I56 hx56
                  obtain ⟨x60, hx60⟩ : ∃ x, numAt l ((p : Int) + 60) 4 = x := ⟨_, rfl⟩
                  have I60 := HI.out ((p : Int) + 60) 4
                  rw [hx60] at I60
                  have HI60 : Hid (∀ w, Calls Try.prog 30 #[.string (S l), .int .i64 ((p : Int) + 60), .int .i64 4] w fun e w' => e = .returned (.int .i64 x60) ∧ w = w') := hid (fun w => I60 w (by omega))
                  have Ex60 := hid hx60
                  clear I60 hx60
                  have s4 : w5.cell? ⟨g8, 4, none⟩ = some (.int .i64 sz) := H5.out.cell 4
                  have s5 : w5.cell? ⟨g8, 5, none⟩ = some (.int .i64 hr) := H5.out.cell 5
                  obtain ⟨b17, hb17⟩ : ∃ b, decide (x56 ≠ 4096 ∨ x60 ≠ 512 ∨ (bs : Int) % 65536 ≠ 0 ∨ (bs : Int) < 65536 ∨ 35184372088832 < (bs : Int) ∨ (sz : Int) % 4096 ≠ 0 ∨ (sz : Int) < 4096 ∨ 262144 < (sz : Int)) = b := ⟨_, rfl⟩
                  have HB17 := hid hb17
                  clear hb17
                  go_cut [146] (fun u wb => u = .bool b17 ∧ w5 = wb)
                  case first => as_aux_lemma =>
                    rcases sizes_cases x56 x60 bs sz with ⟨q0, hb⟩ | ⟨q0, q1, hb⟩ | ⟨q0, q1, q2, hb⟩ | ⟨q0, q1, q2, q3, hb⟩ | ⟨q0, q1, q2, q3, q4, hb⟩ | ⟨q0, q1, q2, q3, q4, q5, hb⟩ | ⟨q0, q1, q2, q3, q4, q5, q6, hb⟩ | ⟨q0, q1, q2, q3, q4, q5, q6, q7, hb⟩ | ⟨q0, q1, q2, q3, q4, q5, q6, q7, hb⟩
                    · obtain rfl : true = b17 := by rw [← HB17.out, decide_eq_true hb]
                      clear HB17 hb
                      go_wp2_with (first | ((with_reducible refine (HI56.out _).mono ?_); rintro e w' ⟨rfl, rfl⟩) | ((with_reducible refine (HI60.out _).mono ?_); rintro e w' ⟨rfl, rfl⟩))
                      go_meet
                      exact ⟨rfl, rfl⟩
                    · obtain rfl : true = b17 := by rw [← HB17.out, decide_eq_true hb]
                      clear HB17 hb
                      go_wp2_with (first | ((with_reducible refine (HI56.out _).mono ?_); rintro e w' ⟨rfl, rfl⟩) | ((with_reducible refine (HI60.out _).mono ?_); rintro e w' ⟨rfl, rfl⟩))
                      go_meet
                      exact ⟨rfl, rfl⟩
                    · obtain rfl : true = b17 := by rw [← HB17.out, decide_eq_true hb]
                      clear HB17 hb
                      go_wp2_with (first | ((with_reducible refine (HI56.out _).mono ?_); rintro e w' ⟨rfl, rfl⟩) | ((with_reducible refine (HI60.out _).mono ?_); rintro e w' ⟨rfl, rfl⟩))
                      go_meet
                      exact ⟨rfl, rfl⟩
                    · obtain rfl : true = b17 := by rw [← HB17.out, decide_eq_true hb]
                      clear HB17 hb
                      go_wp2_with (first | ((with_reducible refine (HI56.out _).mono ?_); rintro e w' ⟨rfl, rfl⟩) | ((with_reducible refine (HI60.out _).mono ?_); rintro e w' ⟨rfl, rfl⟩))
                      go_meet
                      exact ⟨rfl, rfl⟩
                    · obtain rfl : true = b17 := by rw [← HB17.out, decide_eq_true hb]
                      clear HB17 hb
                      go_wp2_with (first | ((with_reducible refine (HI56.out _).mono ?_); rintro e w' ⟨rfl, rfl⟩) | ((with_reducible refine (HI60.out _).mono ?_); rintro e w' ⟨rfl, rfl⟩))
                      go_meet
                      exact ⟨rfl, rfl⟩
                    · obtain rfl : true = b17 := by rw [← HB17.out, decide_eq_true hb]
                      clear HB17 hb
                      go_wp2_with (first | ((with_reducible refine (HI56.out _).mono ?_); rintro e w' ⟨rfl, rfl⟩) | ((with_reducible refine (HI60.out _).mono ?_); rintro e w' ⟨rfl, rfl⟩))
                      go_meet
                      exact ⟨rfl, rfl⟩
                    · obtain rfl : true = b17 := by rw [← HB17.out, decide_eq_true hb]
                      clear HB17 hb
                      go_wp2_with (first | ((with_reducible refine (HI56.out _).mono ?_); rintro e w' ⟨rfl, rfl⟩) | ((with_reducible refine (HI60.out _).mono ?_); rintro e w' ⟨rfl, rfl⟩))
                      go_meet
                      exact ⟨rfl, rfl⟩
                    · obtain rfl : true = b17 := by rw [← HB17.out, decide_eq_true hb]
                      clear HB17 hb
                      go_wp2_with (first | ((with_reducible refine (HI56.out _).mono ?_); rintro e w' ⟨rfl, rfl⟩) | ((with_reducible refine (HI60.out _).mono ?_); rintro e w' ⟨rfl, rfl⟩))
                      go_meet
                      exact ⟨rfl, rfl⟩
                    · obtain rfl : false = b17 := by rw [← HB17.out, decide_eq_false hb]
                      clear HB17 hb
                      go_wp2_with (first | ((with_reducible refine (HI56.out _).mono ?_); rintro e w' ⟨rfl, rfl⟩) | ((with_reducible refine (HI60.out _).mono ?_); rintro e w' ⟨rfl, rfl⟩))
                      go_meet
                      exact ⟨rfl, rfl⟩
                  case rest =>
                    obtain ⟨rfl, rfl⟩ := hcut
                    have hsi : sizesE l p bs sz = if x56 ≠ 4096 ∨ x60 ≠ 512 ∨ (bs : Int) % 65536 ≠ 0 ∨ (bs : Int) < 65536 ∨ 35184372088832 < (bs : Int) ∨ (sz : Int) % 4096 ≠ 0 ∨ (sz : Int) < 4096 ∨ 262144 < (sz : Int) then 6 else 0 := by
                      rw [sizesE, Ex56.out, Ex60.out]
                    have HSI := hid hsi
                    clear hsi HI56 HI60
                    cases b17
                    case true =>
                      have HRN : Hid (R = .error 6) := hid (by
                        have h : sizesE l p bs sz = 6 := by rw [HSI.out, if_pos (of_decide_eq_true HB17.out)]
                        rw [HR2.out, parse2, HHD.out, HFL.out.1, HFL.out.2.2.2.2.1, h]
                        rfl)
                      go_wp2_with (first | refine wpList_load_row (by rfl) 32 (.tmp 4) (by rfl) g2 (by rfl) 32 headZ (0, 0) _ X5.out.z Try.underlying32 (by rfl) headInfo ?_ | refine wpList_store_row (by rfl) 32 (.tmp 2) (.tmp 147) (by rfl) g1 headZ (by rfl) (by rfl) 32 headZ X5.out.a headInfo (by rfl) (headV_one _ _ _ _ _ _ _ _ rfl) ?_)
                      rw [HRN.out]
                      exact bodyPost_ret (v := .tuple #[.agg headZ, .int .i64 6]) (results_ct Try.results15 _ _ g1 32 headZ _ (by rfl) (X5.out.a.setRow _) Try.underlying32 (by rfl) headInfo) rfl ⟨below_setRow U5.out _ GE.out _, rfl⟩
                    case false =>
                      have HR3 : Hid (R = parse3 l p) := hid (by
                        have h : sizesE l p bs sz = 0 := by rw [HSI.out, if_neg (of_decide_eq_false HB17.out)]
                        rw [HR2.out, parse2, HHD.out, HFL.out.1, HFL.out.2.2.2.2.1, h]
                        rfl)
                      clear HSI HB17 HR2
                      obtain ⟨n, hn⟩ : ∃ x, numAt l ((p : Int) + 6) 2 = x := ⟨_, rfl⟩
                      have I6 := HI.out ((p : Int) + 6) 2
                      rw [hn] at I6
                      have HI6 : Hid (∀ w, Calls Try.prog 30 #[.string (S l), .int .i64 ((p : Int) + 6), .int .i64 2] w fun e w' => e = .returned (.int .i64 n) ∧ w = w') := hid (fun w => I6 w (by omega))
                      have En := hid hn
                      clear I6 hn
                      have nlt : n < 65536 := by rw [← En.out]; exact numAt_lt l _ 2
                      obtain ⟨b20, hb20⟩ : ∃ b, decide (n < 1 ∨ 16 < n ∨ (hr : Int) < (p : Int) + 264 + 40 * (n : Int) ∨ 4096 < (hr : Int) ∨ (l.length : Int) < (hr : Int)) = b := ⟨_, rfl⟩
                      have HB20 := hid hb20
                      clear hb20
                      go_upto_region 20 with (((with_reducible refine (HI6.out _).mono ?_); rintro e w' ⟨rfl, rfl⟩))
                      go_cut [179] (fun u wb => u = .bool b20 ∧ w5 = wb)
                      case first => as_aux_lemma =>
                        rcases nums_cases n hr p l.length with ⟨q0, hb⟩ | ⟨q0, q1, hb⟩ | ⟨q0, q1, q2, hb⟩ | ⟨q0, q1, q2, q3, hb⟩ | ⟨q0, q1, q2, q3, q4, hb⟩ | ⟨q0, q1, q2, q3, q4, hb⟩
                        · obtain rfl : true = b20 := by rw [← HB20.out, decide_eq_true hb]
                          clear HB20 hb
                          go_wp2_with (fail)
                          go_meet
                          exact ⟨rfl, rfl⟩
                        · obtain rfl : true = b20 := by rw [← HB20.out, decide_eq_true hb]
                          clear HB20 hb
                          go_wp2_with (fail)
                          go_meet
                          exact ⟨rfl, rfl⟩
                        · obtain rfl : true = b20 := by rw [← HB20.out, decide_eq_true hb]
                          clear HB20 hb
                          go_wp2_with (fail)
                          go_meet
                          exact ⟨rfl, rfl⟩
                        · obtain rfl : true = b20 := by rw [← HB20.out, decide_eq_true hb]
                          clear HB20 hb
                          go_wp2_with (fail)
                          go_meet
                          exact ⟨rfl, rfl⟩
                        · obtain rfl : true = b20 := by rw [← HB20.out, decide_eq_true hb]
                          have q4n : decide (l.length < hr) = true := by
                            simp only [decide_eq_true_eq, decide_eq_false_iff_not] at q4 ⊢
                            omega
                          clear HB20 hb
                          go_wp2_with (fail)
                          go_meet
                          exact ⟨rfl, rfl⟩
                        · obtain rfl : false = b20 := by rw [← HB20.out, decide_eq_false hb]
                          have q4n : decide (l.length < hr) = false := by
                            simp only [decide_eq_true_eq, decide_eq_false_iff_not] at q4 ⊢
                            omega
                          clear HB20 hb
                          go_wp2_with (fail)
                          go_meet
                          exact ⟨rfl, rfl⟩
                      case rest =>
                        obtain ⟨rfl, rfl⟩ := hcut
                        have hnu : sectsF l p sz hr = if n < 1 ∨ 16 < n ∨ (hr : Int) < (p : Int) + 264 + 40 * (n : Int) ∨ 4096 < (hr : Int) ∨ (l.length : Int) < (hr : Int) then none else sectsGo l p sz n 0 (roundF hr 4096) := by rw [sectsF, En.out]
                        have HNU := hid hnu
                        clear hnu HI6
                        cases b20
                        case true =>
                          have HRN : Hid (R = .error 7) := hid (by
                            rw [HR3.out]
                            exact parse3_none (by rw [HHD.out, HFL.out.2.2.2.2.1, HFL.out.2.2.2.2.2, HNU.out, if_pos (of_decide_eq_true HB20.out)]))
                          go_wp2_with (first | refine wpList_load_row (by rfl) 32 (.tmp 4) (by rfl) g2 (by rfl) 32 headZ (0, 0) _ X5.out.z Try.underlying32 (by rfl) headInfo ?_ | refine wpList_store_row (by rfl) 32 (.tmp 2) (.tmp 180) (by rfl) g1 headZ (by rfl) (by rfl) 32 headZ X5.out.a headInfo (by rfl) (headV_one _ _ _ _ _ _ _ _ rfl) ?_)
                          rw [HRN.out]
                          exact bodyPost_ret (v := .tuple #[.agg headZ, .int .i64 7]) (results_ct Try.results15 _ _ g1 32 headZ _ (by rfl) (X5.out.a.setRow _) Try.underlying32 (by rfl) headInfo) rfl ⟨below_setRow U5.out _ GE.out _, rfl⟩
                        case false =>
                          have hsf : sectsF l p sz hr = sectsGo l p sz n 0 (roundF hr 4096) := by rw [HNU.out, if_neg (of_decide_eq_false HB20.out)]
                          have HSF := hid hsf
                          have hnn := of_decide_eq_false HB20.out
                          have nr : 1 ≤ n ∧ n ≤ 16 ∧ p + 264 + 40 * n ≤ hr ∧ hr ≤ 4096 ∧ hr ≤ l.length := by omega
                          obtain ⟨nr1, nr2, nr3, nr4, nr5⟩ := nr
                          clear hsf hnn HNU HB20
                          go_wp2_with fail
                          go_loopg [10] 16 (fun k i wr => ∃ j : Nat, i = .int .i64 j ∧ j + k = 16 ∧ RH wr g1 g2 ∧ Blk wr g8 (headV bs st ch en sz hr (dirsTo l p j) (.slice none 0 0)) 32 ∧ Below w.heap.size w wr)
                          case atStart =>
                            refine ⟨0, rfl, by omega, X5.out, ?_, U5.out⟩
                            rw [headV_ext _ _ _ _ _ _ (dirsTo l p 0) (fun _ => 0) _ (fun k _ => by simp [dirsTo])]
                            exact H5.out
                          case round =>
                            obtain ⟨j, rfl, hj, hX, hB, hU⟩ := hrel
                            have XR := hid hX
                            have BR := hid hB
                            have UR := hid hU
                            clear hX hB hU s4 s5
                            rcases gk with _ | k
                            · as_aux_lemma =>
                              have hjn : ((j : Int) < 16) = False := by simp; omega
                              obtain rfl : j = 16 := by omega
                              have s5 : wr.cell? ⟨g8, 5, none⟩ = some (.int .i64 hr) := BR.out.cell 5
                              have hrb := round_bounds (hr : Int) (by omega) (by omega)
                              obtain ⟨x0, hx0⟩ : ∃ z, roundF (hr : Int) 4096 = z := ⟨_, rfl⟩
                              rw [hx0] at hrb HSF
                              have HX0 := hid hx0
                              obtain ⟨xb0, xb1, -⟩ := hrb
                              obtain ⟨NB, hNB⟩ : ∃ z, wr.heap.size = z := ⟨_, rfl⟩
                              have HNB := hid hNB
                              have l8 : g8 < NB := by have := BR.out.lt; omega
                              have l1 : g1 < NB := by have := XR.out.a.lt; omega
                              have l2 : g2 < NB := by have := XR.out.z.lt; omega
                              clear hx0 hNB
                              go_wp2_with fail
                              refine (ref_Round (hr : Int) 4096 _ (by omega)).mono ?_
                              rintro e w' ⟨rfl, rfl⟩
                              rw [HX0.out]
                              go_wp2_with fail
                              clear s5
                              obtain ⟨wA, rfl⟩ : ∃ z, z = wr := ⟨_, rfl⟩
                              go_loopg [11, 12] n (fun k e i wx => ∃ (q : Nat) (x : Int) (v : Value) (xs : List SectD), e = .int .i64 x ∧ i = .int .i64 q ∧ q + k = n ∧ 0 ≤ x ∧ x ≤ 10000000000 ∧ RH wx g1 g2 ∧ Blk wx g8 (headV bs st ch en sz hr (dirsTo l p 16) v) 32 ∧
                                wx.ownsRow NB 37 6 v q (scells xs) ∧ xs.length = q ∧ Below w.heap.size w wx ∧ NB ≤ wx.heap.size ∧ Hid (refGo l p sz n 0 x0 = (refGo l p sz k q x).map (xs ++ ·)))
                              case atStart => exact ⟨0, x0, _, [], rfl, rfl, by omega, by omega, by omega, XR.out, BR.out, World.ownsRow_nil _ _ _ _, rfl, UR.out, Nat.le_of_eq HNB.out.symm, hid (by simp)⟩
                              case round =>
                                obtain ⟨q, x, v, xs, rfl, rfl, hq, hx0, hx1, hX, hB, hO, hxl, hU, hNs, HGO⟩ := hrel
                                have XR := hid hX
                                have BR := hid hB
                                have OR := hid hO
                                have UR := hid hU
                                have XL := hid hxl
                                obtain ⟨SA, sc, rfl, -, -⟩ := own_row hO
                                have s3 : wr.cell? ⟨g8, 3, none⟩ = some (.int .i64 en) := BR.out.cell 3
                                have s4 : wr.cell? ⟨g8, 4, none⟩ = some (.int .i64 sz) := BR.out.cell 4
                                clear hX hB hO hU hxl
                                rcases gk with _ | k
                                · as_aux_lemma =>
                                  have hqn : ((q : Int) < (n : Int)) = False := by simp; omega
                                  obtain rfl : q = n := by omega
                                  have hfin : sectsF l p sz hr = if x = sz then some xs else none := by
                                    rw [HSF.out, refGo_eq, HGO.out, refGo]
                                    split <;> simp
                                  have HFIN := hid hfin
                                  clear hfin
                                  by_cases hxs : x = sz
                                  · have hxb : (x != (sz : Int)) = false := by rw [bne_eq_false_iff_eq]; exact hxs
                                    have hps := parse3_some (l := l) (p := p) (xs := xs) (by rw [HHD.out, HFL.out.2.2.2.2.1, HFL.out.2.2.2.2.2, HFIN.out, if_pos hxs])
                                    rw [HHD.out, HFL.out.2.2.2.2.1, HFL.out.2.2.2.1] at hps
                                    have HPS := hid hps
                                    clear hps hxs
                                    by_cases hes : sz ≤ en
                                    · have HRN : Hid (R = .error 5) := hid (by rw [HR3.out, HPS.out, if_pos hes])
                                      have dz : decide ((sz : Int) ≤ en) = true := decide_eq_true (by omega)
                                      have dz2 : (sz ≤ en) = True := by simp [hes]
                                      clear hes
                                      go_wp2_with (first | refine wpList_load_row (by rfl) 32 (.tmp 4) (by rfl) g2 (by rfl) 32 headZ (0, 0) _ XR.out.z Try.underlying32 (by rfl) headInfo ?_ | refine wpList_store_row (by rfl) 32 (.tmp 2) (.tmp 321) (by rfl) g1 headZ (by rfl) (by rfl) 32 headZ XR.out.a headInfo (by rfl) (headV_one _ _ _ _ _ _ _ _ rfl) ?_)
                                      rw [HRN.out]
                                      exact bodyPost_ret (v := .tuple #[.agg headZ, .int .i64 5]) (results_ct Try.results15 _ _ g1 32 headZ _ (by rfl) (XR.out.a.setRow _) Try.underlying32 (by rfl) headInfo) rfl ⟨below_setRow UR.out _ GE.out _, rfl⟩
                                    · have HRN : Hid (R = .ok (headAt l p xs)) := hid (by rw [HR3.out, HPS.out, if_neg hes])
                                      have dz : decide ((sz : Int) ≤ en) = false := decide_eq_false (by omega)
                                      have dz2 : (sz ≤ en) = False := by simp [hes]
                                      clear hes
                                      go_wp2_with (first
                                        | refine wpList_load_row (by rfl) 32 (.tmp 8) (by rfl) g8 (by rfl) 32 (headV bs st ch en sz hr (dirsTo l p 16) (.slice SA q sc)) (0, 0) _ BR.out Try.underlying32 (by rfl) headInfo ?_
                                        | refine wpList_store_row (by rfl) 32 (.tmp 2) (.tmp 322) (by rfl) g1 (headV bs st ch en sz hr (dirsTo l p 16) (.slice SA q sc)) (by rfl) (by rfl) 32 headZ XR.out.a headInfo (by rfl) (headV_one _ _ _ _ _ _ _ _ rfl) ?_)
                                      rw [HRN.out]
                                      exact bodyPost_ret (v := .tuple #[.agg (headV bs st ch en sz hr (dirsTo l p 16) (.slice SA q sc)), .int .i64 0]) (results_ct Try.results15 _ _ g1 32 _ _ (by rfl) (XR.out.a.setRow _) Try.underlying32 (by rfl) headInfo) rfl
                                        ⟨below_setRow UR.out _ GE.out _, .slice SA q sc, by
                                          obtain ⟨e1, e2, e3, e4, e5, e6⟩ := HFL.out
                                          rw [headV_ext _ _ _ _ _ _ (dirsTo l p 16) (fun k => ((headAt l p xs).d k : Int)) _ (fun k hk => by simp [dirsTo, headAt, hk])]
                                          rw [← e1, ← e2, ← e3, ← e4, ← e5, ← e6, ← HHD.out]
                                          rfl, by
                                          show (wr.setRow g1 _).ownsRow w.heap.size _ 6 _ xs.length _
                                          rw [XL.out]
                                          exact own_mono (own_setRow OR.out (by omega) _) (by have := GE.out; omega)⟩
                                  · have hxb : (x != (sz : Int)) = true := by rw [bne_iff_ne]; exact hxs
                                    have HRN : Hid (R = .error 7) := hid (by
                                      rw [HR3.out]
                                      exact parse3_none (by rw [HHD.out, HFL.out.2.2.2.2.1, HFL.out.2.2.2.2.2, HFIN.out, if_neg hxs]))
                                    clear hxs
                                    go_wp2_with (first | refine wpList_load_row (by rfl) 32 (.tmp 4) (by rfl) g2 (by rfl) 32 headZ (0, 0) _ XR.out.z Try.underlying32 (by rfl) headInfo ?_ | refine wpList_store_row (by rfl) 32 (.tmp 2) (.tmp 315) (by rfl) g1 headZ (by rfl) (by rfl) 32 headZ XR.out.a headInfo (by rfl) (headV_one _ _ _ _ _ _ _ _ rfl) ?_)
                                    rw [HRN.out]
                                    exact bodyPost_ret (v := .tuple #[.agg headZ, .int .i64 7]) (results_ct Try.results15 _ _ g1 32 headZ _ (by rfl) (XR.out.a.setRow _) Try.underlying32 (by rfl) headInfo) rfl ⟨below_setRow UR.out _ GE.out _, rfl⟩
                                · have hqn : ((q : Int) < (n : Int)) = True := by simp; omega
                                  obtain ⟨at', hat⟩ : ∃ a, p + 264 + 40 * q = a := ⟨_, rfl⟩
                                  have hati : (p : Int) + 264 + 40 * (q : Int) = (at' : Int) := by omega
                                  have hal : at' + 40 ≤ l.length := by omega
                                  have HAT := hid hat
                                  have hsl : ((l.drop at').take 8).length = 8 := by simp; omega
                                  have hex : (S l).extract at' (at' + 8) = S ((l.drop at').take 8) := by
                                    have := extract_S l at' (at' + 8)
                                    rwa [Nat.add_sub_cancel_left] at this
                                  have HTX := hid (fun w => ref_Text ((l.drop at').take 8) 0 8 w (by omega) (by omega) (by omega))
                                  have hnt := name_text ((l.drop at').take 8) hsl
                                  have hsd : sectAt l p (264 + 40 * (q : Int)) = ⟨cutHead ((l.drop at').take 8) 0, numAt l ((at' : Int) + 8) 4, numAt l ((at' : Int) + 12) 4, numAt l ((at' : Int) + 16) 4, numAt l ((at' : Int) + 20) 4, numAt l ((at' : Int) + 36) 4⟩ := by
                                    unfold sectAt
                                    rw [show ((p : Int) + (264 + 40 * (q : Int))).toNat = at' by omega, show (p : Int) + (264 + 40 * (q : Int) + 8) = (at' : Int) + 8 by omega, show (p : Int) + (264 + 40 * (q : Int) + 12) = (at' : Int) + 12 by omega, show (p : Int) + (264 + 40 * (q : Int) + 16) = (at' : Int) + 16 by omega, show (p : Int) + (264 + 40 * (q : Int) + 20) = (at' : Int) + 20 by omega, show (p : Int) + (264 + 40 * (q : Int) + 36) = (at' : Int) + 36 by omega]
                                  obtain ⟨seg, hseg⟩ : ∃ z, (l.drop at').take 8 = z := ⟨_, rfl⟩
                                  rw [hseg] at hsl hex HTX hnt hsd
                                  obtain ⟨nm, hnm⟩ : ∃ z, cutHead seg 0 = z := ⟨_, rfl⟩
                                  rw [hnm] at hnt hsd
                                  obtain ⟨tx, htx⟩ : ∃ z, (textF seg 0 8).getD [] = z := ⟨_, rfl⟩
                                  obtain ⟨ok, hok⟩ : ∃ z, (textF seg 0 8).isSome = z := ⟨_, rfl⟩
                                  have HT2 : Hid (∀ w, Calls Try.prog 33 #[.string (S seg), .int .i64 0, .int .i64 8] w fun e w' => e = .returned (.tuple #[.string (S tx), .bool ok]) ∧ w = w') := hid (by rw [← htx, ← hok]; exact HTX.out)
                                  have HTC : Hid ((ok = true ∧ tx = nm) ∨ (ok = false ∧ nm = seg)) := hid (by
                                    rcases hnt with h | ⟨h, h2⟩
                                    · exact .inl ⟨by rw [← hok, h]; rfl, by rw [← htx, h]; rfl⟩
                                    · exact .inr ⟨by rw [← hok, h]; rfl, h2⟩)
                                  obtain ⟨sd, hse⟩ : ∃ s, sectAt l p (264 + 40 * (q : Int)) = s := ⟨_, rfl⟩
                                  rw [hse] at hsd
                                  obtain rfl : nm = sd.name := by rw [hsd]
                                  have N1 : Hid (numAt l ((at' : Int) + 8) 4 = sd.vs) := hid (by rw [hsd])
                                  have N2 : Hid (numAt l ((at' : Int) + 12) 4 = sd.rva) := hid (by rw [hsd])
                                  have N3 : Hid (numAt l ((at' : Int) + 16) 4 = sd.raw) := hid (by rw [hsd])
                                  have N4 : Hid (numAt l ((at' : Int) + 20) 4 = sd.pt) := hid (by rw [hsd])
                                  have N5 : Hid (numAt l ((at' : Int) + 36) 4 = sd.ch) := hid (by rw [hsd])
                                  have y1 : sd.vs < 4294967296 := N1.out ▸ numAt_lt l _ 4
                                  have y2 : sd.rva < 4294967296 := N2.out ▸ numAt_lt l _ 4
                                  have y3 : sd.raw < 4294967296 := N3.out ▸ numAt_lt l _ 4
                                  have y4 : sd.pt < 4294967296 := N4.out ▸ numAt_lt l _ 4
                                  obtain ⟨Z, hZ⟩ : ∃ z : Int, (sz : Int) = z := ⟨_, rfl⟩
                                  have hgo : Hid (refGo l p sz n 0 x0 = (if refBad l Z x sd then none else (refGo l p sz k (q + 1) (sd.rva + roundF sd.vs 4096)).map (sd :: ·)).map (xs ++ ·)) := hid (by rw [HGO.out, refGo, hse, hZ])
                                  rw [hZ] at s4
                                  have HZ := hid hZ
                                  have hsz8 := S_size seg
                                  clear hat hnt hsd hseg hnm hsl htx hok hse hZ HTX HGO s3
                                  go_wp2_with fail
                                  refine (HT2.out _).mono ?_
                                  rintro e w' ⟨rfl, rfl⟩
                                  go_upto_if 226 with fail
                                  go_cut [14] (fun u wb => u = .string (S sd.name) ∧ wr = wb)
                                  case first => as_aux_lemma =>
                                    rcases HTC.out with ⟨rfl, rfl⟩ | ⟨rfl, h2⟩
                                    · go_wp2_with fail
                                      go_meet
                                      exact ⟨rfl, rfl⟩
                                    · have H2 := hid h2
                                      clear h2
                                      go_wp2_with fail
                                      go_meet
                                      exact ⟨by rw [H2.out], rfl⟩
                                  case rest =>
                                    obtain ⟨rfl, rfl⟩ := hcut
                                    clear hex HTC HT2 hsz8
                                    go_upto_region 34 with fail
                                    go_cut [16] (fun u wb => ∃ sb, u = .pointer (some ⟨sb, 0, none⟩) ∧ wr.heap.size ≤ sb ∧ Below wr.heap.size wr wb ∧ Blk wb sb #[.string (S sd.name), .int .i64 sd.vs, .int .i64 sd.rva, .int .i64 sd.raw, .int .i64 sd.pt, .int .i64 sd.ch] 37)
                                    case first => as_aux_lemma =>
                                      clear s4
                                      go_wp2_with fail
                                      refine (HI.out _ _ _ (by omega)).mono ?_
                                      rintro e w' ⟨rfl, rfl⟩
                                      rw [N1.out]
                                      go_wp2_with fail
                                      refine (HI.out _ _ _ (by omega)).mono ?_
                                      rintro e w' ⟨rfl, rfl⟩
                                      rw [N2.out]
                                      go_wp2_with fail
                                      refine (HI.out _ _ _ (by omega)).mono ?_
                                      rintro e w' ⟨rfl, rfl⟩
                                      rw [N3.out]
                                      go_wp2_with fail
                                      refine (HI.out _ _ _ (by omega)).mono ?_
                                      rintro e w' ⟨rfl, rfl⟩
                                      rw [N4.out]
                                      go_wp2_with fail
                                      refine (HI.out _ _ _ (by omega)).mono ?_
                                      rintro e w' ⟨rfl, rfl⟩
                                      rw [N5.out]
                                      go_wp2_with fail
                                      go_meet
                                      exact ⟨_, rfl, Nat.le_refl _, up_alloc (up_refl _) _, Blk.new _ _ _⟩
                                    case rest =>
                                      obtain ⟨sb, rfl, hsb, hbe, hS⟩ := hcut
                                      have XC := hid (XR.out.below hbe)
                                      have BC := hid (BR.out.below hbe)
                                      have OC := hid (own_below OR.out hbe)
                                      have UC := hid (up_trans UR.out hbe)
                                      have SC : Hid (NB ≤ wc.heap.size) := hid (Nat.le_trans hNs hbe.size)
                                      have HS := hid hS
                                      have s4 : wc.cell? ⟨g8, 4, none⟩ = some (.int .i64 Z) := by rw [← HZ.out]; exact BC.out.cell 4
                                      have s38 : wc.cell? ⟨g8, 38, none⟩ = some (.slice SA q sc) := BC.out.cell 38
                                      have z38 := BC.out.free 38
                                      have d0 : wc.cell? ⟨sb, 0, none⟩ = some (.string (S sd.name)) := HS.out.cell 0
                                      have d1 : wc.cell? ⟨sb, 1, none⟩ = some (.int .i64 sd.vs) := HS.out.cell 1
                                      have d2 : wc.cell? ⟨sb, 2, none⟩ = some (.int .i64 sd.rva) := HS.out.cell 2
                                      have d3 : wc.cell? ⟨sb, 3, none⟩ = some (.int .i64 sd.raw) := HS.out.cell 3
                                      have d4 : wc.cell? ⟨sb, 4, none⟩ = some (.int .i64 sd.pt) := HS.out.cell 4
                                      have d5 : wc.cell? ⟨sb, 5, none⟩ = some (.int .i64 sd.ch) := HS.out.cell 5
                                      obtain ⟨lg, hlg⟩ : ∃ z, roundF sd.vs 4096 = z := ⟨_, rfl⟩
                                      have hlb := round_bounds sd.vs (by omega) (by omega)
                                      rw [hlg] at hlb hgo
                                      obtain ⟨lb1, lb2, -⟩ := hlb
                                      have HLG := hid hlg
                                      obtain ⟨b36, hb36⟩ : ∃ b, decide (refBad l Z x sd) = b := ⟨_, rfl⟩
                                      have HB36 := hid hb36
                                      clear hb36 hbe hS hlg HS
                                      go_wp2_with fail
                                      refine (ref_Round sd.vs 4096 _ (by omega)).mono ?_
                                      rintro e w' ⟨rfl, rfl⟩
                                      rw [HLG.out]
                                      go_upto_region 36 with fail
                                      go_cut [299] (fun u wb => u = .bool b36 ∧ wc = wb)
                                      case first => as_aux_lemma =>
                                        have HIN := hid (fun w => ref_In l.length sd.pt sd.raw w (by omega) (by omega))
                                        clear s38 z38 d0 d5
                                        rcases ref_cases l Z x lg sd HLG.out with ⟨q0, hb⟩ | ⟨q0, q1, hb⟩ | ⟨q0, q1, q2, hb⟩ | ⟨q0, q1, q2, q3, hb⟩ | ⟨q0, q1, q2, q3, q4, hb⟩ | ⟨q0, q1, q2, q3, q4, q5, q6, hb⟩ | ⟨q0, q1, q2, q3, q4, q5, q6, hb⟩ | ⟨q0, q1, q2, q3, q4, q5, hb⟩
                                        · obtain rfl : true = b36 := by rw [← HB36.out, decide_eq_true hb]
                                          clear HB36 hb
                                          go_wp2_with (fail)
                                          go_meet
                                          exact ⟨rfl, rfl⟩
                                        · obtain rfl : true = b36 := by rw [← HB36.out, decide_eq_true hb]
                                          clear HB36 hb
                                          go_wp2_with (fail)
                                          go_meet
                                          exact ⟨rfl, rfl⟩
                                        · obtain rfl : true = b36 := by rw [← HB36.out, decide_eq_true hb]
                                          clear HB36 hb
                                          go_wp2_with (fail)
                                          go_meet
                                          exact ⟨rfl, rfl⟩
                                        · obtain rfl : true = b36 := by rw [← HB36.out, decide_eq_true hb]
                                          clear HB36 hb
                                          go_wp2_with (fail)
                                          go_meet
                                          exact ⟨rfl, rfl⟩
                                        · obtain rfl : true = b36 := by rw [← HB36.out, decide_eq_true hb]
                                          clear HB36 hb
                                          go_wp2_with (fail)
                                          go_meet
                                          exact ⟨rfl, rfl⟩
                                        · obtain rfl : true = b36 := by rw [← HB36.out, decide_eq_true hb]
                                          rw [q6] at HIN
                                          clear q6
                                          have q9 : 0 < sd.raw := by have := of_decide_eq_true q5; omega
                                          clear HB36 hb
                                          go_wp2_with (((with_reducible refine (HIN.out _).mono ?_); rintro e w' ⟨rfl, rfl⟩))
                                          go_meet
                                          exact ⟨rfl, rfl⟩
                                        · obtain rfl : false = b36 := by rw [← HB36.out, decide_eq_false hb]
                                          rw [q6] at HIN
                                          clear q6
                                          have q9 : 0 < sd.raw := by have := of_decide_eq_true q5; omega
                                          clear HB36 hb
                                          go_wp2_with (((with_reducible refine (HIN.out _).mono ?_); rintro e w' ⟨rfl, rfl⟩))
                                          go_meet
                                          exact ⟨rfl, rfl⟩
                                        · obtain rfl : false = b36 := by rw [← HB36.out, decide_eq_false hb]
                                          have q9 : ¬ 0 < sd.raw := by have := of_decide_eq_false q5; omega
                                          clear HB36 hb
                                          go_wp2_with (fail)
                                          go_meet
                                          exact ⟨rfl, rfl⟩
                                      case rest =>
                                        obtain ⟨rfl, rfl⟩ := hcut
                                        cases b36
                                        case true => as_aux_lemma =>
                                          have HRN : Hid (R = .error 7) := hid (by
                                            rw [HR3.out]
                                            exact parse3_none (by rw [HHD.out, HFL.out.2.2.2.2.1, HFL.out.2.2.2.2.2, HSF.out, refGo_eq, hgo.out, if_pos (of_decide_eq_true HB36.out)]; rfl))
                                          clear s4 s38 z38 d0 d1 d2 d3 d4 d5 hgo
                                          go_wp2_with (first | refine wpList_load_row (by rfl) 32 (.tmp 4) (by rfl) g2 (by rfl) 32 headZ (0, 0) _ XC.out.z Try.underlying32 (by rfl) headInfo ?_ | refine wpList_store_row (by rfl) 32 (.tmp 2) (.tmp 300) (by rfl) g1 headZ (by rfl) (by rfl) 32 headZ XC.out.a headInfo (by rfl) (headV_one _ _ _ _ _ _ _ _ rfl) ?_)
                                          rw [HRN.out]
                                          exact bodyPost_ret (v := .tuple #[.agg headZ, .int .i64 7]) (results_ct Try.results15 _ _ g1 32 headZ _ (by rfl) (XC.out.a.setRow _) Try.underlying32 (by rfl) headInfo) rfl ⟨below_setRow UC.out _ GE.out _, rfl⟩
                                        case false => as_aux_lemma =>
                                          have hg1 := hgo.out
                                          rw [if_neg (of_decide_eq_false HB36.out)] at hg1
                                          have HG := hid hg1
                                          have hxb : 0 ≤ (sd.rva : Int) + lg ∧ (sd.rva : Int) + lg ≤ 10000000000 := by omega
                                          clear hg1 hgo HB36 s4
                                          obtain ⟨xn, hxn⟩ : ∃ z, (sd.rva : Int) + lg = z := ⟨_, rfl⟩
                                          rw [hxn] at HG hxb
                                          have HXN := hid hxn
                                          clear hxn
                                          go_wp2_with (at_builtin; refine wp_app' wc (o := ⟨some 309, _, _, _, _, _⟩) rfl _ _ 30 rfl NB 37 (.agg #[.string ⟨#[]⟩, .int .i64 0, .int .i64 0, .int .i64 0, .int .i64 0, .int .i64 0]) 6 56 Try.underlying30 infoSect rfl (by decide) (.slice SA q sc) q (scells xs) (by rfl) OC.out sd.cells rfl (by simp [SectD.cells, Value.oneCell']) wc.heap.size (by rfl) rfl (by omega) (by omega) SC.out ?_; intro v1 w15 hown1 hbel1 hgr1; obtain ⟨SA1, sc1, rfl, -, -⟩ := own_row hown1; obtain ⟨p1, p2, p3, p4, p5, p6⟩ := rh_step l1 l2 l8 n81 n82 GE8.out SC.out XC.out BC.out OC.out UC.out hgr1 hown1; have P2 := hid p2; have P3 := hid p3; have P4 := hid p4; have P5 := hid p5; have P6 := hid p6; have q1 : w15.cell? ⟨g8, 38, none⟩ = some (.slice SA q sc) := p1.cell 38; have q2 := p1.free 38; clear p1 p2 p3 p4 p5 p6 hown1 hbel1 hgr1)
                                          go_roundg k
                                          case measure => omega
                                          case rel =>
                                            refine ⟨q + 1, xn, _, xs ++ [sd], ?_, by go_num, by omega, hxb.1, hxb.2, P2.out, P3.out, by rw [scells_snoc]; exact P4.out, by simp [XL.out], P5.out, P6.out, hid ?_⟩
                                            · first | rfl | rw [HXN.out] | (rw [← HXN.out])
                                            · rw [HG.out, Option.map_map]
                                              have e : ((xs ++ [sd]) ++ ·) = ((xs ++ ·) ∘ (sd :: ·)) := by funext zs; simp
                                              rw [e]
                            · as_aux_lemma =>
                              have hjn : ((j : Int) < 16) = True := by simp; omega
                              have hj16 : (j : Int) < 16 := by omega
                              obtain ⟨u0, hu0⟩ := Option.isSome_iff_exists.1 (headV_cell bs st ch en sz hr (dirsTo l p j) (.slice none 0 0) (6 + 2 * j) (by omega))
                              obtain ⟨u1, hu1⟩ := Option.isSome_iff_exists.1 (headV_cell bs st ch en sz hr (dirsTo l p j) (.slice none 0 0) (6 + 2 * j + 1) (by omega))
                              have c0 := (BR.out.cell (6 + 2 * j)).trans hu0
                              have c1 := (BR.out.cell (6 + 2 * j + 1)).trans hu1
                              have z0 := BR.out.free (6 + 2 * j)
                              have z1 := BR.out.free (6 + 2 * j + 1)
                              rw [Nat.mul_comm 2 j] at c0 c1 z0 z1
                              obtain ⟨y0, hy0⟩ : ∃ z, numAt l ((p : Int) + 136 + 8 * (j : Int)) 4 = z := ⟨_, rfl⟩
                              obtain ⟨y1, hy1⟩ : ∃ z, numAt l ((p : Int) + 140 + 8 * (j : Int)) 4 = z := ⟨_, rfl⟩
                              have hst := dirsTo_step l p j y0 y1 (by rw [← hy0, show (p : Int) + (136 + 8 * (j : Int)) = (p : Int) + 136 + 8 * (j : Int) by omega]) (by rw [← hy1, show (p : Int) + (136 + 8 * (j : Int) + 4) = (p : Int) + 140 + 8 * (j : Int) by omega])
                              have HST := hid hst
                              have HY0 := hid hy0
                              have HY1 := hid hy1
                              clear hu0 hu1 hst hy0 hy1
                              go_wp2_with fail
                              refine (HI.out _ _ _ (by omega)).mono ?_
                              rintro e w' ⟨rfl, rfl⟩
                              rw [HY0.out]
                              go_wp2_with fail
                              refine (HI.out _ _ _ (by omega)).mono ?_
                              rintro e w' ⟨rfl, rfl⟩
                              rw [HY1.out]
                              go_wp2_with fail
                              go_roundg k
                              case measure => omega
                              case rel =>
                                refine ⟨j + 1, by go_num, by omega, ⟨(XR.out.a.apart _ n81 _).apart _ n81 _, (XR.out.z.apart _ n82 _).apart _ n82 _⟩, ?_, (UR.out.setCell GE8.out _).setCell GE8.out _⟩
                                have e := headV_dir bs st ch en sz hr (dirsTo l p j) (.slice none 0 0) j (by omega) y0 y1
                                rw [Nat.mul_comm 2 j] at e
                                rw [headV_ext _ _ _ _ _ _ (dirsTo l p (j + 1)) (fun k => if k = j * 2 then (y0 : Int) else if k = j * 2 + 1 then (y1 : Int) else dirsTo l p j k) _ HST.out, ← e]
                                exact (BR.out.set (6 + j * 2) (.int .i64 y0)).set (6 + j * 2 + 1) (.int .i64 y1)
            · have k4 : ((x4 : Int) != 34404) = true := by rw [bne_iff_ne]; omega
              have HRN : Hid (R = .error 4) := hid (by
                have h : formsE l p = 4 := by rw [formsE, EX4.out, if_pos f4]
                rw [HRF.out, h]
                rfl)
              clear f4
              go_wp2_with (first | refine wpList_load_row (by rfl) 32 (.tmp 4) (by rfl) g2 (by rfl) 32 headZ (0, 0) _ X3.out.z Try.underlying32 (by rfl) headInfo ?_ | refine wpList_store_row (by rfl) 32 (.tmp 2) (.tmp 56) (by rfl) g1 headZ (by rfl) (by rfl) 32 headZ X3.out.a headInfo (by rfl) (headV_one _ _ _ _ _ _ _ _ rfl) ?_)
              rw [HRN.out]
              exact bodyPost_ret (v := .tuple #[.agg headZ, .int .i64 4]) (results_ct Try.results15 _ _ g1 32 headZ _ (by rfl) (X3.out.a.setRow _) Try.underlying32 (by rfl) headInfo) rfl ⟨below_setRow U3.out _ GE.out _, rfl⟩
          · have hq2 : ((S m).toList == [80, 69, 0, 0]) = false := by rw [S_toList]; simpa using h3
            have HRN : Hid (R = .error 3) := hid (by
              have h : startE l = 3 := by rw [HST.out, if_pos h3]
              rw [← HR.out, parseF, h]
              rfl)
            clear h3
            go_wp2_with (first | refine wpList_load_row (by rfl) 32 (.tmp 4) (by rfl) g2 (by rfl) 32 headZ (0, 0) _ X3.out.z Try.underlying32 (by rfl) headInfo ?_ | refine wpList_store_row (by rfl) 32 (.tmp 2) (.tmp 50) (by rfl) g1 headZ (by rfl) (by rfl) 32 headZ X3.out.a headInfo (by rfl) (headV_one _ _ _ _ _ _ _ _ rfl) ?_)
            rw [HRN.out]
            exact bodyPost_ret (v := .tuple #[.agg headZ, .int .i64 3]) (results_ct Try.results15 _ _ g1 32 headZ _ (by rfl) (X3.out.a.setRow _) Try.underlying32 (by rfl) headInfo) rfl ⟨below_setRow U3.out _ GE.out _, rfl⟩
    · have hq : ((S (l.take 2)).toList == [77, 90]) = false := by rw [S_toList]; simpa using h1
      have HRN : Hid (R = .error 3) := hid (by
        have h : startE l = 3 := by rw [startE, if_neg H64.out, if_pos h1]
        rw [← HR.out, parseF, h]
        rfl)
      clear h1
      go_wp2_with (first | refine wpList_load_row (by rfl) 32 (.tmp 4) (by rfl) g2 (by rfl) 32 headZ (0, 0) _ X3.out.z Try.underlying32 (by rfl) headInfo ?_ | refine wpList_store_row (by rfl) 32 (.tmp 2) (.tmp 26) (by rfl) g1 headZ (by rfl) (by rfl) 32 headZ X3.out.a headInfo (by rfl) (headV_one _ _ _ _ _ _ _ _ rfl) ?_)
      rw [HRN.out]
      exact bodyPost_ret (v := .tuple #[.agg headZ, .int .i64 3]) (results_ct Try.results15 _ _ g1 32 headZ _ (by rfl) (X3.out.a.setRow _) Try.underlying32 (by rfl) headInfo) rfl ⟨below_setRow U3.out _ GE.out _, rfl⟩
end Go.Proofs.Ytajcihcbgmpdjaa
