/- SectLays: what is laid; walked. -/
import Derived.Test.YtajcihcbgmpdjaaAwake6
namespace Go.Proofs.Ytajcihcbgmpdjaa
open Go.RowKit

attribute [-go_sem] storeVar

theorem withinB_iff (r a n : Int) : withinB r a n = true ↔ a ≤ r ∧ r - a < n := by simp [withinB]

/-- Sections that begin behind a place lay nothing there. -/
theorem layS_behind (size : Nat) (l : List UInt8) (k : Nat) (hk : k < size) : ∀ (xs : List SectD) (out : List UInt8), out.length = size → (∀ s ∈ xs, k < s.rva) → (layS size l xs out)[k]? = out[k]?
  | [], _, _, _ => rfl
  | s :: xs, out, ho, h => by
    rw [layS, layS_behind size l k hk xs _ (layTo_length _ _ _ _ _) (fun s' hs' => h s' (by simp [hs'])), layTo_get _ _ _ _ _ _ hk, if_neg (by have := h s (by simp); omega), List.getD_eq_getElem?_getD, List.getElem?_eq_getElem (by omega)]
    rfl

theorem secsD_rva : ∀ (zs : List (Int × Int × Int)) (i rva pt : Nat), ∀ s ∈ secsD zs i rva pt, rva ≤ s.rva
  | [], _, _, _ => by simp [secsD]
  | x :: zs, i, rva, pt => by
    intro s hs
    rw [secsD] at hs
    rcases List.mem_cons.1 hs with rfl | hs
    · exact Nat.le_refl _
    · have := secsD_rva zs (i + 1) (rva + secFull x) (pt + secRaw x) s hs
      omega

theorem secsD_small : ∀ (zs : List (Int × Int × Int)) (i rva pt : Nat), rva + 20480 * zs.length ≤ 4294967295 → pt + 8191 * zs.length ≤ 4294967295 → ∀ s ∈ secsD zs i rva pt, s.small
  | [], _, _, _, _, _ => by simp [secsD]
  | x :: zs, i, rva, pt, h1, h2 => by
    obtain ⟨s1, s2, s3, s4, s5, s6, s7, s8, s9, s10⟩ := sec_bd x
    simp only [List.length_cons] at h1 h2
    intro s hs
    rw [secsD] at hs
    rcases List.mem_cons.1 hs with rfl | hs
    · unfold SectD.small
      simp only
      omega
    · exact secsD_small zs (i + 1) (rva + secFull x) (pt + secRaw x) (by omega) (by omega) s hs

theorem layS_secs (size : Nat) (l : List UInt8) (k : Nat) (hk : k < size) : ∀ (zs : List (Int × Int × Int)) (i rva pt i0 : Nat) (out : List UInt8), out.length = size →
    (layS size l (secsD zs i rva pt) out)[k]? = match ofF (secsD zs i rva pt) i0 k with
      | none => out[k]?
      | some j => match (secsD zs i rva pt)[j - i0]? with
        | none => out[k]?
        | some s => if withinB k s.rva s.raw then some (byteF l ((s.pt : Int) + k - s.rva)) else out[k]?
  | [], i, rva, pt, i0, out, _ => rfl
  | x :: zs, i, rva, pt, i0, out, ho => by
    obtain ⟨s1, s2, s3, s4, s5, s6, s7, s8, s9, s10⟩ := sec_bd x
    have hvf := secV_le x
    obtain ⟨f, hf⟩ : ∃ f, secFull x = f := ⟨_, rfl⟩
    obtain ⟨v, hv⟩ : ∃ v, secV x = v := ⟨_, rfl⟩
    obtain ⟨r, hr⟩ : ∃ r, secRaw x = r := ⟨_, rfl⟩
    obtain ⟨q, hq⟩ : ∃ q, secCh x = q := ⟨_, rfl⟩
    have hsd : secsD (x :: zs) i rva pt = ⟨[115, UInt8.ofNat (48 + i)], v, rva, r, pt, q⟩ :: secsD zs (i + 1) (rva + f) (pt + r) := by rw [secsD, hf, hv, hr, hq]
    rw [hsd]
    rw [hf, hv] at s6
    rw [hf, hr] at s9
    clear hsd s1 s2 s3 s4 s5 s7 s8 s10 hvf
    obtain ⟨s, hs⟩ : ∃ s : SectD, s = ⟨[115, UInt8.ofNat (48 + i)], v, rva, r, pt, q⟩ := ⟨_, rfl⟩
    rw [← hs]
    have e1 : s.rva = rva := by rw [hs]
    have e2 : s.raw = r := by rw [hs]
    have e3 : s.vs = v := by rw [hs]
    have hlt := layTo_get size l out s size k hk
    have hg : out[k]? = some (out.getD k 0) := by
      rw [List.getD_eq_getElem?_getD, List.getElem?_eq_getElem (by omega)]
      rfl
    rw [layS, ofF, e3, s6]
    by_cases hw : withinB k s.rva (f : Int) = true
    · rw [if_pos hw]
      have hw' := (withinB_iff _ _ _).1 hw
      simp only [Nat.sub_self, List.getElem?_cons_zero]
      rw [layS_behind size l k hk _ _ (layTo_length _ _ _ _ _) (fun s' hs' => by have := secsD_rva _ _ _ _ s' hs'; omega), hlt]
      by_cases hc : withinB k s.rva (s.raw : Int) = true
      · have hc' := (withinB_iff _ _ _).1 hc
        rw [if_pos (by omega), if_pos hc]
      · have hc' : ¬ ((s.rva : Int) ≤ k ∧ (k : Int) - s.rva < s.raw) := fun h => hc ((withinB_iff _ _ _).2 h)
        rw [if_neg (by omega), if_neg hc, hg]
    · rw [if_neg hw]
      have hw' : ¬ ((s.rva : Int) ≤ k ∧ (k : Int) - s.rva < f) := fun h => hw ((withinB_iff _ _ _).2 h)
      rw [layS_secs size l k hk zs (i + 1) (rva + f) (pt + r) (i0 + 1) _ (layTo_length _ _ _ _ _), hlt, if_neg (by omega), ← hg]
      cases ho2 : ofF (secsD zs (i + 1) (rva + f) (pt + r)) (i0 + 1) k with
      | none => rfl
      | some j =>
        obtain ⟨j1, j2, -⟩ := ofF_lt _ _ _ _ ho2
        simp only
        rw [show j - i0 = (j - (i0 + 1)) + 1 by omega, List.getElem?_cons_succ]

theorem secsD_fits : ∀ (zs : List (Int × Int × Int)) (i rva pt : Nat), ∀ s ∈ secsD zs i rva pt, pt ≤ s.pt ∧ s.pt + s.raw ≤ pt + secsLen zs
  | [], _, _, _ => by simp [secsD]
  | x :: zs, i, rva, pt => by
    intro s hs
    rw [secsD] at hs
    obtain ⟨r, hr⟩ : ∃ r, secRaw x = r := ⟨_, rfl⟩
    rw [secsLen, hr]
    rcases List.mem_cons.1 hs with rfl | hs
    · simp only [hr]
      omega
    · rw [hr] at hs
      have := secsD_fits zs (i + 1) (rva + secFull x) (pt + r) s hs
      omega

/-- Each byte of what is laid. -/
theorem lay_pure (L : List UInt8) (zs : List (Int × Int × Int)) (size : Nat) (hL : L.length = 1024 + secsLen zs) (hsz : 4096 ≤ size) (k : Nat) (hk : k < size) :
    (∃ q : Nat, offF 1024 (secsD zs 0 4096 1024) k = some (q : Int) ∧ q < L.length ∧ (layF size 1024 (secsD zs 0 4096 1024) L)[k]? = L[q]?) ∨
    (offF 1024 (secsD zs 0 4096 1024) k = none ∧ (layF size 1024 (secsD zs 0 4096 1024) L)[k]? = some 0) := by
  have hl0 : (lay0 size 1024 L).length = size := by rw [lay0, splL_length _ _ _ (by rw [List.length_take, zer_length]; omega), zer_length]
  have hm : min 1024 L.length = 1024 := by omega
  have h0 : (lay0 size 1024 L)[k]? = if k < 1024 then L[k]? else some 0 := by
    rw [lay0, hm, splL, List.take_zero, List.nil_append]
    split
    · rw [List.getElem?_append_left (by rw [List.length_take]; omega), List.getElem?_take, if_pos (by omega)]
    · rw [List.getElem?_append_right (by rw [List.length_take]; omega), List.getElem?_drop]
      exact zer_get _ _ (by rw [List.length_take]; omega)
  rw [layF, layS_secs size L k hk zs 0 4096 1024 0 _ hl0, h0, offF]
  by_cases hw : withinB k 0 ((1024 : Nat) : Int) = true
  · have hw' := (withinB_iff _ _ _).1 hw
    have hk1 : k < 1024 := by omega
    refine .inl ⟨k, by rw [if_pos hw], by omega, ?_⟩
    rw [if_pos hk1]
    cases ho : ofF (secsD zs 0 4096 1024) 0 k with
    | none => rfl
    | some j =>
      exfalso
      obtain ⟨-, -, s, hs, hws⟩ := ofF_lt _ _ _ _ ho
      have h1 := secsD_rva _ _ _ _ s (List.mem_of_getElem? hs)
      have h2 := (withinB_iff _ _ _).1 hws
      omega
  · have hw' : ¬ ((0 : Int) ≤ k ∧ (k : Int) - 0 < (1024 : Nat)) := fun h => hw ((withinB_iff _ _ _).2 h)
    have hk1 : ¬ k < 1024 := by omega
    rw [if_neg hw, if_neg hk1]
    cases ho : ofF (secsD zs 0 4096 1024) 0 k with
    | none => exact .inr ⟨rfl, rfl⟩
    | some j =>
      obtain ⟨-, -, s, hs, hws⟩ := ofF_lt _ _ _ _ ho
      simp only
      rw [Nat.sub_zero] at hs ⊢
      rw [hs]
      simp only
      by_cases hc : withinB k s.rva (s.raw : Int) = true
      · have hc' := (withinB_iff _ _ _).1 hc
        rw [if_pos hc, if_pos hc]
        obtain ⟨f1, f2⟩ := secsD_fits _ _ _ _ s (List.mem_of_getElem? hs)
        obtain ⟨q, hq⟩ := Int.eq_ofNat_of_zero_le (show 0 ≤ (s.pt : Int) + k - s.rva by omega)
        refine .inl ⟨q, by rw [hq], by omega, ?_⟩
        rw [hq, byteF, if_neg (by show ¬ ((q : Int) < 0); omega)]
        show some (L.getD (q : Int).toNat 0) = L[q]?
        rw [Int.toNat_natCast, List.getD_eq_getElem?_getD, List.getElem?_eq_getElem (by omega)]
        rfl
      · rw [if_neg hc, if_neg hc]
        exact .inr ⟨rfl, rfl⟩

set_option maxRecDepth 100000 in
set_option maxHeartbeats 8000000 in
theorem walk_SectLays (w : World) (A : Option Addr) (c : Nat) (xs : List (Int × Int × Int)) (ht : Trip w A xs.length c (tcells xs)) :
    Calls Try.prog 10 #[.slice A xs.length c] w fun e w' => e = .returned (.bool true) ∧ Below w.heap.size w w' := by
  obtain ⟨h, hp, hm⟩ := parse_madeF xs
  obtain ⟨hL, hLl⟩ := madeF_L xs
  obtain ⟨zo, zi⟩ := sectsOf_length xs
  obtain ⟨zs, hz⟩ : ∃ zs, sectsOf xs = zs := ⟨_, rfl⟩
  obtain ⟨L, hLe⟩ : ∃ L, madeF xs [] = L := ⟨_, rfl⟩
  rw [hz] at hm zo zi hLl
  rw [hLe] at hp hLl
  have hslen := secsLen_le zs
  obtain ⟨e1, e2, e3, e4⟩ := secsEnd_ge zs 4096
  have hsmall : ∀ s ∈ h.sects, s.small := by rw [hm.sects]; exact secsD_small _ _ _ _ (by omega) (by omega)
  have hsl : h.sects.length ≤ 140737488355328 := by rw [hm.sects, secsD_length]; omega
  have hsize := hm.size
  have hhead := hm.headers
  obtain ⟨size, hsz⟩ : ∃ s, secsEnd zs 4096 = s := ⟨_, rfl⟩
  rw [hsz] at e1 e2 e4 hsize
  have HPURE : ∀ k, k < size → (∃ q : Nat, offF h.headers h.sects k = some (q : Int) ∧ q < L.length ∧ (layF h.size h.headers h.sects L)[k]? = L[q]?) ∨
      (offF h.headers h.sects k = none ∧ (layF h.size h.headers h.sects L)[k]? = some 0) := fun k hk => by
    rw [hhead, hm.sects, hsize]
    exact lay_pure L zs size hLl (by omega) k hk
  have hll : (layF h.size h.headers h.sects L).length = size := by
    rw [layF, hsize, hhead]
    have hl0 : (lay0 size 1024 L).length = size := by rw [lay0, splL_length _ _ _ (by rw [List.length_take, zer_length]; omega), zer_length]
    have key : ∀ (xs : List SectD) (out : List UInt8), out.length = size → (layS size L xs out).length = size := fun xs => by
      induction xs with
      | nil => exact fun _ h => h
      | cons s xs ih => exact fun out _ => ih _ (layTo_length _ _ _ _ _)
    exact key _ _ hl0
  obtain ⟨I, hI⟩ : ∃ I, layF h.size h.headers h.sects L = I := ⟨_, rfl⟩
  simp only [hI] at HPURE hll
  obtain ⟨N, hN⟩ : ∃ N, L.length = N := ⟨_, rfl⟩
  rw [hN] at hLl
  simp only [hN] at HPURE
  have hNb : N ≤ 60000 := by omega
  have hszb : size ≤ 130000 := by omega
  have HPU := hid HPURE
  have HI := hid hI
  have HLLI := hid hll
  have HP := hid hp
  have HLe := hid hLe
  have HSM := hid hsmall
  have HNL := hid hN
  have HT := hid ht
  have HSI := hid hsize
  have HB := hid (⟨by omega, by omega, by omega, by omega, hsl⟩ : h.size ≤ 262144 ∧ h.size ≤ 4294967295 ∧ h.headers ≤ 4294967295 ∧ h.headers ≤ h.size ∧ h.sects.length ≤ 140737488355328)
  clear HPURE hI hll hp hLe hsmall hN ht hm hL hz hsl hhead hsz hslen e1 e2 e3 e4 zo zi hLl hsize
  go_enter Try.func10, Try.ntmps10
  go_wp2_with fail
  refine (law_Made A c xs none 0 [] w HT.out (Trip.none _) (by simp)).mono ?_
  rw [HLe.out]
  rintro e w1 ⟨v1, rfl, o1, b1⟩
  obtain ⟨g1, p1, hv1, hg1, hlt1, hbs1⟩ := o1.bs
  have hpz := hdr_Parse _ _ L w1 hbs1
  rw [HNL.out, HP.out] at hpz
  rw [HNL.out] at hv1
  subst hv1
  have BS1 := hid hbs1
  have HPZ := hid hpz
  have U1 := hid b1
  clear o1 b1 hbs1 hpz hg1 hlt1
  go_wp2_with fail
  refine HPZ.out.mono ?_
  rintro e w2 ⟨b2, v2, rfl, o2⟩
  have U2 := hid (up_trans U1.out b2)
  obtain ⟨A2, c2, rfl, -, r2⟩ := own_row o2
  have R2 := hid r2
  obtain ⟨cs2, hcs2⟩ : ∃ cs, headV h.base h.stamp h.chars h.entry h.size h.headers (fun k => h.d k) (.slice A2 h.sects.length c2) = cs := ⟨_, rfl⟩
  rw [show h.val (.slice A2 h.sects.length c2) = .agg cs2 by rw [HeadD.val, hcs2]]
  have HS2 : Hid (cs2.size = 39) := by rw [← hcs2]; exact headV_size _ _ _ _ _ _ _ _
  have HO2 : Hid (cs2.all (·.oneCell') = true) := by rw [← hcs2]; exact headV_one _ _ _ _ _ _ _ _ rfl
  have HCS2 := hid hcs2
  have D2 := hid b2
  clear b2 o2 r2 hcs2
  have HC := hid (headC_of HCS2.out HB.out.2.1 HB.out.2.2.1 HB.out.2.2.2.2)
  go_wp2_with (first | (refine wpList_store_row (by rfl) 32 (.tmp 4) (.tmp 16) (by rfl) w2.heap.size cs2 (by rfl) (by rfl) 32 headZ (Blk.new _ _ _) (by rw [HS2.out]; exact headInfo) (by rw [HS2.out]; rfl) HO2.out ?_; obtain ⟨w3, hw3⟩ : ∃ w3, w3 = (w2.alloc (.cells headZ 32)).setRow w2.heap.size cs2 := ⟨_, rfl⟩; have B3 : Hid (Blk w3 w2.heap.size cs2 32) := hw3 ▸ (Blk.new w2 headZ 32).setRow cs2; have U3 := hid (show Below w.heap.size w w3 from hw3 ▸ below_setRow (up_alloc U2.out _) _ U2.out.size _); have V3 := hid (show Below w2.heap.size w2 w3 from hw3 ▸ below_setRow (up_alloc (up_refl _) _) _ (Nat.le_refl _) _); rw [show (w2.alloc (.cells #[.int .u64 0, .int .i64 0, .int .i64 0, .int .i64 0, .int .i64 0, .int .i64 0, .int .i64 0, .int .i64 0, .int .i64 0, .int .i64 0, .int .i64 0, .int .i64 0, .int .i64 0, .int .i64 0, .int .i64 0, .int .i64 0, .int .i64 0, .int .i64 0, .int .i64 0, .int .i64 0, .int .i64 0, .int .i64 0, .int .i64 0, .int .i64 0, .int .i64 0, .int .i64 0, .int .i64 0, .int .i64 0, .int .i64 0, .int .i64 0, .int .i64 0, .int .i64 0, .int .i64 0, .int .i64 0, .int .i64 0, .int .i64 0, .int .i64 0, .int .i64 0, .slice none 0 0] 32)).setRow w2.heap.size cs2 = w3 from hw3.symm]; clear hw3; have D3 := hid (up_trans D2.out V3.out); have H3 := hid (⟨B3.out, R2.out.below V3.out, HC.out, HSM.out⟩ : HeadAt w3 w2.heap.size cs2 h.size h.headers A2 c2 h.sects)) | (refine wpList_load_row (by rfl) 32 (.tmp 4) (by rfl) w2.heap.size (by rfl) 32 cs2 (0, 0) _ H3.out.blk Try.underlying32 (by rfl) H3.out.info ?_))
  have hla := sect_Lay cs2 h.size h.headers A2 c2 h.sects ⟨g1, 0, none⟩ p1 L w3 HC.out H3.out.row HSM.out (BS1.out.below D3.out) HB.out.1 HB.out.2.2.2.1
  rw [HNL.out, HI.out] at hla
  refine hla.mono ?_
  rintro e w7 ⟨v7, rfl, o7, b7⟩
  have H7 := hid (H3.out.below b7)
  have U7 := hid (up_trans U3.out b7)
  have D7 := hid (up_trans D3.out b7)
  obtain ⟨g7, p7, hv7, -, -, hbs7⟩ := o7.bs
  rw [HLLI.out] at hv7
  subst hv7
  have BS7 := hid hbs7
  have q4 := (H7.out.blk.cell 4).trans H7.out.c.c4
  rw [HSI.out] at q4
  clear hla o7 b7 hbs7 H3
  go_wp2_with fail
  go_loopg [7] size (fun g i wr => ∃ j : Nat, i = .int .i64 j ∧ j + g = size ∧ Below w7.heap.size w7 wr)
  case atStart => exact ⟨0, rfl, by omega, up_refl _⟩
  case round =>
    obtain ⟨j, rfl, hj, hb⟩ := hrel
    have HBR := hid hb
    have HR := hid (H7.out.below hb)
    clear hb
    rcases gk with _ | m
    · have dj : decide (j < size) = false := by simp; omega
      go_wp2_with fail
      refine (law6_awake wr).mono ?_
      rintro e w' ⟨rfl, hb⟩
      have HB2 := hid hb
      clear hb
      go_wp2_with fail
      go_ret
      exact ⟨rfl, up_trans (up_trans U7.out HBR.out) HB2.out⟩
    · have dj : decide (j < size) = true := by simp; omega
      have hjs : j < size := by omega
      go_wp2_with (refine wpList_load_row (by rfl) 32 (.tmp 4) (by rfl) w2.heap.size (by rfl) 32 cs2 (0, 0) _ HR.out.blk Try.underlying32 (by rfl) HR.out.info ?_)
      refine (sect_Offset cs2 h.size h.headers A2 c2 h.sects j wr HC.out HR.out.row HSM.out (by omega) (by omega)).mono ?_
      have hcell7 : j < I.length := by rw [HLLI.out]; exact hjs
      rcases HPU.out j hjs with ⟨q, hq1, hq2, hq3⟩ | ⟨hq1, hq3⟩
      · rw [hq1]
        rintro e w8 ⟨rfl, b8⟩
        have B8 := hid (up_trans HBR.out b8)
        have hql : q < L.length := by rw [HNL.out]; exact hq2
        obtain ⟨ad7, e7, z7⟩ := (BS7.out.below B8.out).row.byte hcell7
        obtain rfl := Option.some.inj e7
        obtain ⟨ad1, e8, z1⟩ := (BS1.out.below (up_trans D7.out B8.out)).row.byte hql
        obtain rfl := Option.some.inj e8
        have hee : I[j] = L[q] := by
          rw [List.getElem?_eq_getElem hcell7, List.getElem?_eq_getElem hql] at hq3
          exact Option.some.inj hq3
        rw [hee] at z7
        obtain ⟨by', hby⟩ : ∃ b, L[q] = b := ⟨_, rfl⟩
        rw [hby] at z7 z1
        rw [Addr.add_lit, Nat.zero_add] at z7 z1
        have dq : decide (q < N) = true := by simp; exact hq2
        clear b8 hee hby hq1 hq3 hql
        go_wp2_with fail
        go_roundg m
        case measure => omega
        case rel => exact ⟨j + 1, by go_num, by omega, B8.out⟩
      · rw [hq1]
        rintro e w8 ⟨rfl, b8⟩
        have B8 := hid (up_trans HBR.out b8)
        obtain ⟨ad7, e7, z7⟩ := (BS7.out.below B8.out).row.byte hcell7
        obtain rfl := Option.some.inj e7
        have hee : I[j] = 0 := by
          rw [List.getElem?_eq_getElem hcell7] at hq3
          exact Option.some.inj hq3
        rw [hee, Addr.add_lit, Nat.zero_add] at z7
        have z7' : w8.cell? ⟨g7, j, none⟩ = some (.int .u8 0) := z7
        clear b8 hee hq1 hq3 z7
        go_wp2_with fail
        go_roundg m
        case measure => omega
        case rel => exact ⟨j + 1, by go_num, by omega, B8.out⟩
end Go.Proofs.Ytajcihcbgmpdjaa
