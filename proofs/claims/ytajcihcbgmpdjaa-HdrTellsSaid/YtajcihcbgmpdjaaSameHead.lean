/- slipwayref1.SameHead, of two heads that are the same. -/
import Derived.Test.YtajcihcbgmpdjaaRefHeadP
import Derived.Test.YtajcihcbgmpdjaaSecRow
import Derived.ChangeKeysEq
import Derived.Outline
set_option linter.unusedVariables false
namespace Go.Proofs.Ytajcihcbgmpdjaa
open Go.RowKit

attribute [-go_sem] loadVar
theorem loadVar_a : type_of% (loadVar.eq_1 26) := loadVar.eq_1 _
theorem loadVar_b : type_of% (loadVar.eq_1 3) := loadVar.eq_1 _
theorem loadVar_c : type_of% (loadVar.eq_1 30) := loadVar.eq_1 _
theorem loadVar_d : type_of% (loadVar.eq_1 37) := loadVar.eq_1 _
attribute [local go_sem] loadVar_a loadVar_b loadVar_c loadVar_d
/-- A part of a row, loaded whole. -/
theorem run_loadVar_part {P : Program} (w : World) (g off : Nat) (t ty : TypeId) (cs ds : Array Value) (fr : Nat × Nat) (d : TypeDesc) (hg : w.heap[g]? = some (.cells cs t fr))
    (hu : P.underlying ty = some d) (hd : (match d with | .struct _ | .array _ _ => true | _ => false) = true) (hi : (P.info? ty).map (·.size) = some ds.size) (hds : ∀ j v, ds.toList[j]? = some v → cs[off + j]? = some v) :
    (loadVar ty ⟨g, off, none⟩).run P w = .ok (.agg ds) w := by
  have hl : (loadCells ⟨g, off, none⟩ ds.toList.length).run P w = .ok ds.toList.toArray w :=
    run_loadCells_list (P := P) w ⟨g, off, none⟩ ds.toList (fun j v hv => by
      have hadd : (⟨g, off, none⟩ : Addr).add j = ⟨g, off + j, none⟩ := by unfold Addr.add; split <;> simp_all
      rw [hadd, cell_of_row w g (off + j) cs t fr hg]
      exact hds j v hv)
  cases hq : P.info? ty with
  | none => simp [hq] at hi
  | some i =>
    have hs : i.size = ds.size := by simpa [hq] using hi
    have hagg : (isAgg ty).run P w = .ok true w := by
      unfold isAgg
      rw [Sem.run_bind, run_underlying hu w]
      cases d <;> simp_all
    simp only [Array.length_toList, Array.toArray_toList] at hl
    simp [loadVar, Sem.run_bind, hagg, sizeOf, typeInfo, hq, hs, hl]
def dirsA (d : Nat → Int) : Array Value := ((List.range 32).map fun k => Value.int .i64 (d k)).toArray

theorem eq_dir (u v : Int) (w : World) : (Op.equalIn 9999 28 (.agg #[.int .i64 u, .int .i64 v]) (.agg #[.int .i64 u, .int .i64 v])).run Try.prog w = .ok true w := by
  rw [show (9999 : Nat) = 9998 + 1 from rfl, run_equalIn_agg w 9998 28 _ _ (by kernel_rfl) (by kernel_rfl)]
  simp only [Program.fieldsOf, Try.underlying28]
  go_simp
theorem infoDir : (Try.prog.info? 28).map (fun i => i.size) = some 2 := by kernel_rfl
theorem part_dir (d : Nat → Int) (i : Nat) (hi : i < 16) (w : World) : (part 28 (dirsA d) (i * 2)).run Try.prog w = .ok (.agg #[.int .i64 (d (i * 2)), .int .i64 (d (i * 2 + 1))]) w := by
  have he : (dirsA d).extract (i * 2) (i * 2 + 2) = #[.int .i64 (d (i * 2)), .int .i64 (d (i * 2 + 1))] := by
    have : i = 0 ∨ i = 1 ∨ i = 2 ∨ i = 3 ∨ i = 4 ∨ i = 5 ∨ i = 6 ∨ i = 7 ∨ i = 8 ∨ i = 9 ∨ i = 10 ∨ i = 11 ∨ i = 12 ∨ i = 13 ∨ i = 14 ∨ i = 15 := by omega
    rcases this with rfl | rfl | rfl | rfl | rfl | rfl | rfl | rfl | rfl | rfl | rfl | rfl | rfl | rfl | rfl | rfl <;> rfl
  cases hq : (Try.prog).info? 28 with
  | none =>
    have h := infoDir
    rw [hq] at h
    cases h
  | some o =>
    have h := infoDir
    rw [hq] at h
    have hs : o.size = 2 := by simpa using h
    simp [part, isAgg, run_underlying Try.underlying28, sizeOf, typeInfo, hq, hs, he]
theorem eq_items (d : Nat → Int) (w : World) : ∀ is : List Nat, (∀ i ∈ is, i < 16) → (Op.eqItems 9999 28 2 (dirsA d) (dirsA d) is).run Try.prog w = .ok true w
  | [], _ => by simp [Op.eqItems]
  | i :: is, h => by
    simp only [Op.eqItems, Sem.run_bind, part_dir d i (h i (by simp)) w, eq_dir, Result.andThen_ok]
    simpa using eq_items d w is (fun k hk => h k (by simp [hk]))
theorem eq_dirs (d : Nat → Int) (w : World) : (Op.equalIn 10000 29 (.agg (dirsA d)) (.agg (dirsA d))).run Try.prog w = .ok true w := by
  cases hq : (Try.prog).info? 28 with
  | none =>
    have h := infoDir
    rw [hq] at h
    cases h
  | some o =>
    rw [show (10000 : Nat) = 9999 + 1 from rfl, run_equalIn_array w 9999 _ _ Try.underlying29 hq, show (Try.prog).cellsOf 28 = 2 by kernel_rfl]
    exact eq_items d w _ (fun i hi => by simpa using hi)

set_option maxRecDepth 100000 in
set_option maxHeartbeats 16000000 in
theorem ref_SameHead (w : World) (base stamp chars entry size headers : Int) (d : Nat → Int) (xs : List SectD) (A1 A2 : Option Addr) (c1 c2 : Nat) (h1 : Row w A1 (scells xs)) (h2 : Row w A2 (scells xs)) (hl1 : xs.length ≤ c1) (hl2 : xs.length ≤ c2) (hl : xs.length ≤ 9223372036854775807) :
    Calls Try.prog 16 #[.agg (headV base stamp chars entry size headers d (.slice A1 xs.length c1)), .agg (headV base stamp chars entry size headers d (.slice A2 xs.length c2))] w fun e w' => e = .returned (.bool true) ∧ Below w.heap.size w w' := by
  obtain ⟨V1, hV1⟩ : ∃ z, headV base stamp chars entry size headers d (.slice A1 xs.length c1) = z := ⟨_, rfl⟩
  obtain ⟨V2, hV2⟩ : ∃ z, headV base stamp chars entry size headers d (.slice A2 xs.length c2) = z := ⟨_, rfl⟩
  obtain ⟨g1, hg1⟩ : ∃ g, w.heap.size = g := ⟨_, rfl⟩
  obtain ⟨x1, hx1⟩ : ∃ zz, w.alloc (.cells V1 32) = zz := ⟨_, rfl⟩
  have u1 : Below w.heap.size w x1 := hx1 ▸ up_alloc (up_refl _) _
  obtain ⟨g2, hg2⟩ : ∃ g, x1.heap.size = g := ⟨_, rfl⟩
  obtain ⟨x2, hx2⟩ : ∃ zz, x1.alloc (.cells V2 32) = zz := ⟨_, rfl⟩
  have u2 : Below x1.heap.size x1 x2 := hx2 ▸ up_alloc (up_refl _) _
  have U2 := hid (up_trans u1 u2)
  have B1 : Hid (Blk x2 g1 (headV base stamp chars entry size headers d (.slice A1 xs.length c1)) 32) := hid (by
    rw [hV1]
    refine Blk.below ?_ u2
    rw [← hx1, ← hg1]
    exact Blk.new _ _ _)
  have B2 : Hid (Blk x2 g2 (headV base stamp chars entry size headers d (.slice A2 xs.length c2)) 32) := hid (by
    rw [hV2, ← hx2, ← hg2]
    exact Blk.new _ _ _)
  have R1 := hid (h1.below U2.out)
  have R2 := hid (h2.below U2.out)
  have HG1 : Hid (w.heap.size = g1) := hg1
  rw [hV1, hV2]
  clear hV1 hV2 h1 h2 u1 u2
  have z1 := B1.out
  have z1_0 : x2.cell? ⟨g1, 0, none⟩ = some (.int .u64 base) := z1.cell 0
  have z1_1 : x2.cell? ⟨g1, 1, none⟩ = some (.int .i64 stamp) := z1.cell 1
  have z1_2 : x2.cell? ⟨g1, 2, none⟩ = some (.int .i64 chars) := z1.cell 2
  have z1_3 : x2.cell? ⟨g1, 3, none⟩ = some (.int .i64 entry) := z1.cell 3
  have z1_4 : x2.cell? ⟨g1, 4, none⟩ = some (.int .i64 size) := z1.cell 4
  have z1_5 : x2.cell? ⟨g1, 5, none⟩ = some (.int .i64 headers) := z1.cell 5
  have z1_38 : x2.cell? ⟨g1, 38, none⟩ = some (.slice A1 xs.length c1) := z1.cell 38
  clear z1
  have z2 := B2.out
  have z2_0 : x2.cell? ⟨g2, 0, none⟩ = some (.int .u64 base) := z2.cell 0
  have z2_1 : x2.cell? ⟨g2, 1, none⟩ = some (.int .i64 stamp) := z2.cell 1
  have z2_2 : x2.cell? ⟨g2, 2, none⟩ = some (.int .i64 chars) := z2.cell 2
  have z2_3 : x2.cell? ⟨g2, 3, none⟩ = some (.int .i64 entry) := z2.cell 3
  have z2_4 : x2.cell? ⟨g2, 4, none⟩ = some (.int .i64 size) := z2.cell 4
  have z2_5 : x2.cell? ⟨g2, 5, none⟩ = some (.int .i64 headers) := z2.cell 5
  have z2_38 : x2.cell? ⟨g2, 38, none⟩ = some (.slice A2 xs.length c2) := z2.cell 38
  clear z2
  have hpart : ∀ (v : Value) (j : Nat) (u : Value), (dirsA d).toList[j]? = some u → (headV base stamp chars entry size headers d v)[6 + j]? = some u := fun v j u hu => by
    simp only [dirsA] at hu
    have hj : j < 32 := by
      have := (List.getElem?_eq_some_iff.1 hu).1
      simpa using this
    simp [hj] at hu
    subst hu
    have : j = 0 ∨ j = 1 ∨ j = 2 ∨ j = 3 ∨ j = 4 ∨ j = 5 ∨ j = 6 ∨ j = 7 ∨ j = 8 ∨ j = 9 ∨ j = 10 ∨ j = 11 ∨ j = 12 ∨ j = 13 ∨ j = 14 ∨ j = 15 ∨ j = 16 ∨ j = 17 ∨ j = 18 ∨ j = 19 ∨ j = 20 ∨ j = 21 ∨ j = 22 ∨ j = 23 ∨ j = 24 ∨ j = 25 ∨ j = 26 ∨ j = 27 ∨ j = 28 ∨ j = 29 ∨ j = 30 ∨ j = 31 := by omega
    rcases this with rfl | rfl | rfl | rfl | rfl | rfl | rfl | rfl | rfl | rfl | rfl | rfl | rfl | rfl | rfl | rfl | rfl | rfl | rfl | rfl | rfl | rfl | rfl | rfl | rfl | rfl | rfl | rfl | rfl | rfl | rfl | rfl <;> rfl
  have hds : (dirsA d).size = 32 := by simp [dirsA]
  have hl1' := run_loadVar_part (P := Try.prog) x2 g1 6 32 29 _ (dirsA d) (0, 0) _ B1.out Try.underlying29 (by rfl) (by rw [hds]; kernel_rfl) (hpart _)
  have hl2' := run_loadVar_part (P := Try.prog) x2 g2 6 32 29 _ (dirsA d) (0, 0) _ B2.out Try.underlying29 (by rfl) (by rw [hds]; kernel_rfl) (hpart _)
  have heq := eq_dirs d x2
  obtain ⟨D, hD⟩ : ∃ z, dirsA d = z := ⟨_, rfl⟩
  rw [hD] at hl1' hl2' heq
  clear hD hpart hds
  go_enter Try.func16, Try.ntmps16
  go_upto_region 3 with fail
  clear z1_0 z1_1 z1_2 z1_3 z1_4 z1_5 z2_0 z2_1 z2_2 z2_3 z2_4 z2_5 z1_38 z2_38 hg1 hx1 hg2 hx2 heq hl1' hl2'
  go_wp2_with fail
  go_loopg [5] xs.length (fun k i wr => ∃ j : Nat, i = .int .i64 j ∧ j + k = xs.length ∧ Below x2.heap.size x2 wr)
  case atStart => exact ⟨0, rfl, by omega, up_refl _⟩
  case round =>
    obtain ⟨j, rfl, hj, hu⟩ := hrel
    have HU := hid hu
    have z1_38 : wr.cell? ⟨g1, 38, none⟩ = some (.slice A1 xs.length c1) := (B1.out.below hu).cell 38
    have z2_38 : wr.cell? ⟨g2, 38, none⟩ = some (.slice A2 xs.length c2) := (B2.out.below hu).cell 38
    clear hu
    rcases gk with _ | k
    · have hjn : ((j : Int) < (xs.length : Int)) = False := by simp; omega
      go_wp2_with fail
      go_ret
      exact ⟨rfl, up_trans U2.out HU.out⟩
    · have hjn : ((j : Int) < (xs.length : Int)) = True := by simp; omega
      have hjl : j < xs.length := by omega
      obtain ⟨s, hs⟩ : ∃ s, xs[j]? = some s := ⟨_, List.getElem?_eq_getElem hjl⟩
      obtain ⟨ad, rfl⟩ := R1.out.sect_ad hjl
      obtain ⟨bd, rfl⟩ := R2.out.sect_ad hjl
      obtain ⟨e0, e1, e2, e3, e4, e5, -⟩ := (R1.out.below HU.out).sect hs
      obtain ⟨f0, f1, f2, f3, f4, f5, -⟩ := (R2.out.below HU.out).sect hs
      have hS := S_toList s.name
      clear hs
      go_wp2_with fail
      go_quiet (fail)
      go_wp2_with fail
      go_roundg k
      case measure => omega
      case rel => exact ⟨j + 1, by go_num, by omega, up_drewN HU.out _⟩
end Go.Proofs.Ytajcihcbgmpdjaa
