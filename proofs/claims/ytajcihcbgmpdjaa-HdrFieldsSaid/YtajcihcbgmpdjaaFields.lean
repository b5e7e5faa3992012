/- HdrFields, walked. -/
import Derived.Test.YtajcihcbgmpdjaaFieldsP
import Derived.Test.YtajcihcbgmpdjaaRows3
import Derived.Test.YtajcihcbgmpdjaaAwake5
namespace Go.Proofs.Ytajcihcbgmpdjaa
open Go.RowKit

attribute [-go_sem] storeVar
theorem storeVar_field : type_of% (storeVar.eq_1 48) := storeVar.eq_1 _
attribute [local go_sem] storeVar_field

def fcells (f : FieldD) : List Value := [.int .i64 f.pt, .int .i64 f.n, .int .u64 f.good, .int .u64 f.bad, .int .i64 f.e]

def fieldsA : Array Value := #[.int .i64 0, .int .i64 2, .int .u64 23117, .int .u64 23118, .int .i64 3, .int .i64 60, .int .i64 4, .int .u64 64, .int .u64 66, .int .i64 2, .int .i64 60, .int .i64 4, .int .u64 64, .int .u64 60, .int .i64 2, .int .i64 64, .int .i64 4, .int .u64 17744, .int .u64 17745, .int .i64 3, .int .i64 68, .int .i64 2, .int .u64 34404, .int .u64 332, .int .i64 4, .int .i64 84, .int .i64 2, .int .u64 240, .int .u64 224, .int .i64 5, .int .i64 88, .int .i64 2, .int .u64 523, .int .u64 267, .int .i64 5, .int .i64 196, .int .i64 4, .int .u64 16, .int .u64 15, .int .i64 5, .int .i64 120, .int .i64 4, .int .u64 4096, .int .u64 8192, .int .i64 6, .int .i64 124, .int .i64 4, .int .u64 512, .int .u64 1024, .int .i64 6, .int .i64 112, .int .i64 8, .int .u64 35184372088832, .int .u64 35184372154368, .int .i64 6, .int .i64 112, .int .i64 8, .int .u64 131072, .int .u64 65537, .int .i64 6, .int .i64 112, .int .i64 8, .int .u64 65536, .int .u64 0, .int .i64 6, .int .i64 144, .int .i64 4, .int .u64 8192, .int .u64 8191, .int .i64 6, .int .i64 144, .int .i64 4, .int .u64 8192, .int .u64 266240, .int .i64 6, .int .i64 70, .int .i64 2, .int .u64 1, .int .u64 0, .int .i64 7, .int .i64 70, .int .i64 2, .int .u64 1, .int .u64 17, .int .i64 7, .int .i64 148, .int .i64 4, .int .u64 368, .int .u64 367, .int .i64 7, .int .i64 148, .int .i64 4, .int .u64 1024, .int .u64 4097, .int .i64 7, .int .i64 336, .int .i64 4, .int .u64 4096, .int .u64 4097, .int .i64 7, .int .i64 336, .int .i64 4, .int .u64 1, .int .u64 0, .int .i64 7, .int .i64 340, .int .i64 4, .int .u64 4096, .int .u64 8192, .int .i64 7, .int .i64 344, .int .i64 4, .int .u64 512, .int .u64 513, .int .i64 7, .int .i64 344, .int .i64 4, .int .u64 512, .int .u64 4608, .int .i64 7, .int .i64 348, .int .i64 4, .int .u64 1024, .int .u64 1025, .int .i64 7, .int .i64 104, .int .i64 4, .int .u64 8191, .int .u64 8192, .int .i64 5]
set_option maxRecDepth 100000 in
theorem fieldsA_eq : fieldsA.toList = fieldsT.flatMap fcells := rfl

set_option maxRecDepth 100000 in
set_option maxHeartbeats 8000000 in
theorem walk_HdrFields (w : World) (a0 : Int) (h0 : (Lit.int .i64 a0).wf = true) :
    Calls Try.prog 6 #[.int .i64 a0] w fun e w' => e = .returned (.bool true) ∧ Below w.heap.size w w' := by
  clear h0
  have e0 : 0 ≤ bits .and .i64 a0 255 ∧ bits .and .i64 a0 255 ≤ 255 := and_le_i64 a0 255 (by omega)
  obtain ⟨q, hq⟩ := Int.eq_ofNat_of_zero_le e0.1
  have hq' : bits .and .i64 a0 255 = (q : Int) := hq
  have qb : q ≤ 255 := by omega
  obtain ⟨i, hi⟩ : ∃ i, q % 26 = i := ⟨_, rfl⟩
  have hiI : (q : Int) % 26 = (i : Int) := by omega
  have ib : i < 26 := by omega
  have hil : i < fieldsT.length := ib
  obtain ⟨f, hf⟩ : ∃ f, fieldsT[i] = f := ⟨_, rfl⟩
  have hf? : fieldsT[i]? = some f := by rw [List.getElem?_eq_getElem hil, hf]
  have hok : fieldOk (madeF [] []) f = true := List.all_eq_true.1 fields_ok f (hf ▸ List.getElem_mem _)
  obtain ⟨hM, hMl⟩ := madeF_L []
  have hsll := secsLen_le (sectsOf [])
  have hs6 := (sectsOf_length []).2
  obtain ⟨M, hMe⟩ : ∃ M, madeF [] [] = M := ⟨_, rfl⟩
  rw [hMe] at hok hM hMl
  simp only [fieldOk, Bool.and_eq_true, decide_eq_true_eq] at hok
  obtain ⟨⟨⟨⟨⟨⟨⟨k1, k2⟩, k3⟩, k4⟩, k5⟩, k6⟩, k7⟩, k8⟩ := hok
  obtain ⟨hg, hpg⟩ : ∃ h, parseF (putF M f.pt f.n f.good) = .ok h := by
    cases hp : parseF (putF M f.pt f.n f.good) with
    | ok h => exact ⟨h, rfl⟩
    | error e => rw [hp] at k7; cases k7
  have hpb : parseF (putF M f.pt f.n f.bad) = .error (f.e : Int) := by
    cases hp : parseF (putF M f.pt f.n f.bad) with
    | ok h => rw [hp] at k8; cases k8
    | error e =>
      rw [hp] at k8
      have : e = (f.e : Int) := by simpa [isErr] using k8
      rw [this]
  obtain ⟨N, hN⟩ : ∃ N, M.length = N := ⟨_, rfl⟩
  have hNb : 1024 ≤ N ∧ N ≤ 60000 := by have := hM.len; omega
  obtain ⟨nb1, nb2⟩ := hNb
  -- the table
  obtain ⟨w1, hw1⟩ : ∃ w1, w.alloc (.cells #[.int .i64 0, .int .i64 2, .int .u64 23117, .int .u64 23118, .int .i64 3, .int .i64 60, .int .i64 4, .int .u64 64, .int .u64 66, .int .i64 2, .int .i64 60, .int .i64 4, .int .u64 64, .int .u64 60, .int .i64 2, .int .i64 64, .int .i64 4, .int .u64 17744, .int .u64 17745, .int .i64 3, .int .i64 68, .int .i64 2, .int .u64 34404, .int .u64 332, .int .i64 4, .int .i64 84, .int .i64 2, .int .u64 240, .int .u64 224, .int .i64 5, .int .i64 88, .int .i64 2, .int .u64 523, .int .u64 267, .int .i64 5, .int .i64 196, .int .i64 4, .int .u64 16, .int .u64 15, .int .i64 5, .int .i64 120, .int .i64 4, .int .u64 4096, .int .u64 8192, .int .i64 6, .int .i64 124, .int .i64 4, .int .u64 512, .int .u64 1024, .int .i64 6, .int .i64 112, .int .i64 8, .int .u64 35184372088832, .int .u64 35184372154368, .int .i64 6, .int .i64 112, .int .i64 8, .int .u64 131072, .int .u64 65537, .int .i64 6, .int .i64 112, .int .i64 8, .int .u64 65536, .int .u64 0, .int .i64 6, .int .i64 144, .int .i64 4, .int .u64 8192, .int .u64 8191, .int .i64 6, .int .i64 144, .int .i64 4, .int .u64 8192, .int .u64 266240, .int .i64 6, .int .i64 70, .int .i64 2, .int .u64 1, .int .u64 0, .int .i64 7, .int .i64 70, .int .i64 2, .int .u64 1, .int .u64 17, .int .i64 7, .int .i64 148, .int .i64 4, .int .u64 368, .int .u64 367, .int .i64 7, .int .i64 148, .int .i64 4, .int .u64 1024, .int .u64 4097, .int .i64 7, .int .i64 336, .int .i64 4, .int .u64 4096, .int .u64 4097, .int .i64 7, .int .i64 336, .int .i64 4, .int .u64 1, .int .u64 0, .int .i64 7, .int .i64 340, .int .i64 4, .int .u64 4096, .int .u64 8192, .int .i64 7, .int .i64 344, .int .i64 4, .int .u64 512, .int .u64 513, .int .i64 7, .int .i64 344, .int .i64 4, .int .u64 512, .int .u64 4608, .int .i64 7, .int .i64 348, .int .i64 4, .int .u64 1024, .int .u64 1025, .int .i64 7, .int .i64 104, .int .i64 4, .int .u64 8191, .int .u64 8192, .int .i64 5] 48) = w1 := ⟨_, rfl⟩
  have hrow : Row w1 (some ⟨w.heap.size, 0, none⟩) (fieldsT.flatMap fcells) := by
    rw [← fieldsA_eq, ← hw1]
    exact Row.new w _ _
  have hu1 : Below w.heap.size w w1 := hw1 ▸ up_alloc (up_refl _) _
  have hc : ∀ (k : Nat) (v : Value), k < 5 → (fcells f)[k]? = some v → w1.cell? ⟨w.heap.size, i * 5 + k, none⟩ = some v := fun k v hk hv => by
    have h1 := flatMap_at fcells 5 (fun _ => rfl) fieldsT i f hf? k hk
    rw [hv] at h1
    obtain ⟨hlt, he⟩ := List.getElem?_eq_some_iff.1 h1
    obtain ⟨ad', e, hcc⟩ := hrow.cell hlt
    obtain rfl := Option.some.inj e
    have ea : (⟨w.heap.size, 0, none⟩ : Addr).add (i * 5 + k) = ⟨w.heap.size, i * 5 + k, none⟩ := by rw [Addr.add_lit, Nat.zero_add]
    rw [ea] at hcc
    rw [hcc, he]
  have t0 := hc 0 _ (by decide) rfl
  have t1 := hc 1 _ (by decide) rfl
  have t2 := hc 2 _ (by decide) rfl
  have t3 := hc 3 _ (by decide) rfl
  have t4 := hc 4 _ (by decide) rfl
  rw [Nat.add_zero] at t0
  obtain ⟨w2, hw2⟩ : ∃ w2, w1.alloc (.cells #[.int .i64 f.pt, .int .i64 f.n, .int .u64 f.good, .int .u64 f.bad, .int .i64 f.e] 48) = w2 := ⟨_, rfl⟩
  have hx2 : Blk w2 w1.heap.size #[.int .i64 f.pt, .int .i64 f.n, .int .u64 f.good, .int .u64 f.bad, .int .i64 f.e] 48 := hw2 ▸ Blk.new _ _ _
  have hu2 : Below w.heap.size w w2 := hw2 ▸ up_alloc hu1 _
  have HG := hid hpg
  have HBD := hid hpb
  have HX2 := hid hx2
  have HU2 := hid hu2
  have HMe := hid hMe
  have HN := hid hN
  obtain ⟨pt, hpt⟩ : ∃ x, f.pt = x := ⟨_, rfl⟩
  obtain ⟨fn, hfn⟩ : ∃ x, f.n = x := ⟨_, rfl⟩
  obtain ⟨gd, hgd⟩ : ∃ x, f.good = x := ⟨_, rfl⟩
  obtain ⟨bd, hbd⟩ : ∃ x, f.bad = x := ⟨_, rfl⟩
  obtain ⟨fe, hfe⟩ : ∃ x, f.e = x := ⟨_, rfl⟩
  clear hq hi hf hf? hM hMl hsll hs6 hMe hN hpg hpb hx2 hu2 hrow hu1 hc k7 k8 e0
  simp only [hpt, hfn, hgd, hbd, hfe] at *
  clear hpt hfn hgd hbd hfe
  go_enter Try.func6, Try.ntmps6
  go_wp2_with fail
  refine (law_Made none 0 [] none 0 [] _ (Trip.none _) (Trip.none _) (by simp)).mono ?_
  rw [HMe.out]
  rintro e w3 ⟨v3, rfl, o3, b3⟩
  have U3 := hid (up_trans HU2.out b3)
  have O3 := hid (o3.mono (Nat.zero_le _))
  have X3 := hid (HX2.out.below b3)
  have x0 := X3.out.cell 0
  have x1 := X3.out.cell 1
  have x2 := X3.out.cell 2
  simp at x0 x1 x2
  clear o3 b3 hw1 hw2 t0 t1 t2 t3 t4 HX2
  go_wp2_with fail
  refine (law_putO 0 v3 M (pt : Int) (fn : Int) (gd : Int) w3 O3.out (by rw [HN.out]; omega) (by omega) (by omega) (by omega) (by omega) (by omega) (by omega)).mono ?_
  rintro e w4 ⟨v4, rfl, o4, b4⟩
  simp only [Int.toNat_natCast] at o4
  have hp4 := parse_own w4 _ v4 _ o4
  rw [HG.out] at hp4
  have HP4 := hid hp4
  have U4 := hid (up_trans U3.out b4)
  have D4 := hid b4
  clear o4 b4 hp4 x0 x1 x2
  go_wp2_with fail
  refine HP4.out.mono ?_
  rintro e w5 ⟨b5, v5, rfl, o5⟩
  have U5 := hid (up_trans U4.out b5)
  obtain ⟨A5, c5, rfl, -, r5⟩ := own_row o5
  have R5 := hid r5
  obtain ⟨cs5, hcs5⟩ : ∃ cs, headV hg.base hg.stamp hg.chars hg.entry hg.size hg.headers (fun k => hg.d k) (.slice A5 hg.sects.length c5) = cs := ⟨_, rfl⟩
  rw [show hg.val (.slice A5 hg.sects.length c5) = .agg cs5 by rw [HeadD.val, hcs5]]
  have HS5 : Hid (cs5.size = 39) := by rw [← hcs5]; exact headV_size _ _ _ _ _ _ _ _
  have HO5 : Hid (cs5.all (·.oneCell') = true) := by rw [← hcs5]; exact headV_one _ _ _ _ _ _ _ _ rfl
  have HCS5 := hid hcs5
  have D5 := hid b5
  clear b5 o5 r5 hcs5
  go_wp2_with (refine wpList_store_row (by rfl) 32 (.tmp 6) (.tmp 56) (by rfl) w5.heap.size cs5 (by rfl) (by rfl) 32 headZ (Blk.new _ _ _) (by rw [HS5.out]; exact headInfo) (by rw [HS5.out]; rfl) HO5.out ?_; obtain ⟨w6, hw6⟩ : ∃ w6, w6 = (w5.alloc (.cells headZ 32)).setRow w5.heap.size cs5 := ⟨_, rfl⟩; have B6 : Hid (Blk w6 w5.heap.size cs5 32) := hw6 ▸ (Blk.new w5 headZ 32).setRow cs5; have U6 := hid (show Below w.heap.size w w6 from hw6 ▸ below_setRow (up_alloc U5.out _) _ U5.out.size _); have V6 := hid (show Below w5.heap.size w5 w6 from hw6 ▸ below_setRow (up_alloc (up_refl _) _) _ (Nat.le_refl _) _); rw [show (w5.alloc (.cells #[.int .u64 0, .int .i64 0, .int .i64 0, .int .i64 0, .int .i64 0, .int .i64 0, .int .i64 0, .int .i64 0, .int .i64 0, .int .i64 0, .int .i64 0, .int .i64 0, .int .i64 0, .int .i64 0, .int .i64 0, .int .i64 0, .int .i64 0, .int .i64 0, .int .i64 0, .int .i64 0, .int .i64 0, .int .i64 0, .int .i64 0, .int .i64 0, .int .i64 0, .int .i64 0, .int .i64 0, .int .i64 0, .int .i64 0, .int .i64 0, .int .i64 0, .int .i64 0, .int .i64 0, .int .i64 0, .int .i64 0, .int .i64 0, .int .i64 0, .int .i64 0, .slice none 0 0] 32)).setRow w5.heap.size cs5 = w6 from hw6.symm]; clear hw6; have D6 := hid (up_trans (up_trans D4.out D5.out) V6.out); have X6 := hid (X3.out.below D6.out); have O6 := hid (O3.out.below D6.out); have x0 := X6.out.cell 0; have x1 := X6.out.cell 1; have x3 := X6.out.cell 3; simp at x0 x1 x3)
  refine (law_putO 0 v3 M (pt : Int) (fn : Int) (bd : Int) w6 O6.out (by rw [HN.out]; omega) (by omega) (by omega) (by omega) (by omega) (by omega) (by omega)).mono ?_
  rintro e w7 ⟨v7, rfl, o7, b7⟩
  simp only [Int.toNat_natCast] at o7
  have hp7 := parse_own w7 _ v7 _ o7
  rw [HBD.out] at hp7
  have HP7 := hid hp7
  have U7 := hid (up_trans U6.out b7)
  have X7 := hid (X6.out.below b7)
  clear o7 b7 hp7 x0 x1 x3
  go_wp2_with fail
  refine HP7.out.mono ?_
  rintro e w8 ⟨b8, rfl⟩
  have U8 := hid (up_trans U7.out b8)
  have X8 := hid (X7.out.below b8)
  clear b8
  go_wp2_with (refine wpList_store_row (by rfl) 32 (.tmp 8) (.tmp 68) (by rfl) w8.heap.size headZ (by rfl) (by rfl) 32 headZ (Blk.new _ _ _) headInfo (by rfl) (headV_one _ _ _ _ _ _ _ _ rfl) ?_; obtain ⟨w9, hw9⟩ : ∃ w9, w9 = (w8.alloc (.cells headZ 32)).setRow w8.heap.size headZ := ⟨_, rfl⟩; have B9 : Hid (Blk w9 w8.heap.size headZ 32) := hw9 ▸ (Blk.new w8 headZ 32).setRow headZ; have U9 := hid (show Below w.heap.size w w9 from hw9 ▸ below_setRow (up_alloc U8.out _) _ U8.out.size _); have V9 := hid (show Below w8.heap.size w8 w9 from hw9 ▸ below_setRow (up_alloc (up_refl _) _) _ (Nat.le_refl _) _); rw [show (w8.alloc (.cells #[.int .u64 0, .int .i64 0, .int .i64 0, .int .i64 0, .int .i64 0, .int .i64 0, .int .i64 0, .int .i64 0, .int .i64 0, .int .i64 0, .int .i64 0, .int .i64 0, .int .i64 0, .int .i64 0, .int .i64 0, .int .i64 0, .int .i64 0, .int .i64 0, .int .i64 0, .int .i64 0, .int .i64 0, .int .i64 0, .int .i64 0, .int .i64 0, .int .i64 0, .int .i64 0, .int .i64 0, .int .i64 0, .int .i64 0, .int .i64 0, .int .i64 0, .int .i64 0, .int .i64 0, .int .i64 0, .int .i64 0, .int .i64 0, .int .i64 0, .int .i64 0, .slice none 0 0] 32)).setRow w8.heap.size headZ = w9 from hw9.symm]; clear hw9; have X9 := hid (X8.out.below V9.out); have x4 := X9.out.cell 4; have z4 : w9.cell? ⟨w8.heap.size, 4, none⟩ = some (.int .i64 0) := B9.out.cell 4; have z38 : w9.cell? ⟨w8.heap.size, 38, none⟩ = some (.slice none 0 0) := B9.out.cell 38; simp at x4)
  refine (law_awake w9).mono ?_
  rintro e w10 ⟨rfl, hb⟩
  have HB := hid hb
  clear hb
  go_wp2_with fail
  go_ret
  exact ⟨rfl, up_trans U9.out HB.out⟩
end Go.Proofs.Ytajcihcbgmpdjaa
