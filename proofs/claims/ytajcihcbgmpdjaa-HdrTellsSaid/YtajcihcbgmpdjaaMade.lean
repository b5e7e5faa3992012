/- slipwaylaw5.Made, walked. -/
import Derived.Test.YtajcihcbgmpdjaaMadeP
import Derived.Test.YtajcihcbgmpdjaaRound2
import Derived.Test.YtajcihcbgmpdjaaBits
import Derived.Outline
namespace Go.Proofs.Ytajcihcbgmpdjaa
open Go.RowKit

theorem infoByte : (Try.prog.info? 5).map (fun i => (i.zero, i.size, i.bytes)) = some (some (.int .u8 0), 1, 1) := by kernel_rfl
theorem sizeByte (w : World) : (Go.sizeOf 5).run Try.prog w = .ok 1 w := by
  obtain ⟨i, hi, hz, hs1, hby⟩ := info_parts infoByte
  simp [Go.sizeOf, typeInfo, hi, hs1]

/-- Sections as cells. -/
def tcells (xs : List (Int × Int × Int)) : List Value := xs.flatMap fun x => [.int .i64 x.1, .int .i64 x.2.1, .int .i64 x.2.2]

/-- Turns as cells. -/
def ucells (ts : List (Int × Int × Nat)) : List Value := ts.flatMap fun t => [.int .i64 t.1, .int .i64 t.2.1, .int .u64 t.2.2]

/-- A slice of rows of three cells. -/
structure Trip (w : World) (A : Option Addr) (n c : Nat) (cs : List Value) : Prop where
  row : Row w A cs
  len : cs.length = n * 3
  le : n ≤ c
  mx : n ≤ 140737488355328

theorem ownB_made (w : World) (n : Nat) (hn : n ≤ 140737488355328) : OwnB (w.alloc (.cells (madeCells #[.int .u8 0] n) 5)) w.heap.size (.slice (some ⟨w.heap.size, 0, none⟩) n n) (zer n) := by
  refine ⟨w.heap.size, n, madeCells #[.int .u8 0] n, (0, 0), by rw [zer_length], Nat.le_refl _, heap_alloc_new w _, .inl (Nat.le_refl _), by rw [zer_length]; exact Nat.le_refl _, by unfold maxLen; omega, by rw [zer_length]; exact hn, ?_, ?_⟩
  · have := toList_madeCells_one (.int .u8 0) n
    have h2 : (madeCells #[.int .u8 0] n).toList.length = n := by rw [this]; simp
    simpa using h2
  · rw [toList_madeCells_one, zer_length, zer, bcells_replicate, List.take_of_length_le (by simp)]
theorem Trip.below {w w' : World} {A : Option Addr} {n c : Nat} {cs : List Value} (h : Trip w A n c cs) (hb : Below w.heap.size w w') : Trip w' A n c cs := ⟨h.row.below hb, h.len, h.le, h.mx⟩
theorem tcells_length (xs : List (Int × Int × Int)) : (tcells xs).length = xs.length * 3 := by
  induction xs with
  | nil => rfl
  | cons x xs ih => simp only [tcells, List.flatMap_cons, List.length_append, List.length_cons, List.length_nil] at ih ⊢; omega

theorem slice_64 (g p : Nat) (w : World) (hp : 1024 ≤ p) : (Instr.slice 23 (.slice (some ⟨g, 0, none⟩) 1024 p) (some (.int .i64 64)) none none).run Try.prog w = .ok (.slice (some ⟨g, 64, none⟩) 960 (p - 64)) w := by
  have hel : Try.prog.elem 23 = 5 := by simp [Program.elem, Try.underlying23]
  have hu : Try.prog.underlying 23 = some (.slice (Try.prog.elem 23)) := by rw [hel]; exact Try.underlying23
  obtain ⟨i, hi, hz, hs1, hby⟩ := info_parts infoByte
  have := run_slice_l w 23 (some ⟨g, 0, none⟩) 1024 p hu .i64 64 (by omega) (by omega)
  rw [hel] at this
  rw [this]
  have h0 : p ≠ 64 := by omega
  simp [sizeOf, typeInfo, hi, hs1, sliced, Result.andThen, h0, Addr.add]

theorem Trip.cells {w : World} {ad : Addr} {n c : Nat} {xs : List (Int × Int × Int)} (h : Trip w (some ad) n c (tcells xs)) {j : Nat} (hj : j < xs.length) :
    w.cell? (ad.add (j * 3)) = some (.int .i64 xs[j].1) ∧ w.cell? ⟨(ad.add (j * 3)).block, (ad.add (j * 3)).off + 1, none⟩ = some (.int .i64 xs[j].2.1) ∧ w.cell? ⟨(ad.add (j * 3)).block, (ad.add (j * 3)).off + 2, none⟩ = some (.int .i64 xs[j].2.2) := by
  have key : ∀ (xs : List (Int × Int × Int)) (j : Nat) (hj : j < xs.length), (tcells xs)[j * 3]? = some (.int .i64 xs[j].1) ∧ (tcells xs)[j * 3 + 1]? = some (.int .i64 xs[j].2.1) ∧ (tcells xs)[j * 3 + 2]? = some (.int .i64 xs[j].2.2) := by
    intro xs
    induction xs with
    | nil => intro j hj; simp at hj
    | cons x xs ih =>
      intro j hj
      rcases j with _ | j
      · exact ⟨rfl, rfl, rfl⟩
      · have h := ih j (by simpa using hj)
        rw [show (j + 1) * 3 = j * 3 + 3 by omega]
        exact h
  obtain ⟨k0, k1, k2⟩ := key xs j hj
  have hc : ∀ (k : Nat) (v : Value), (tcells xs)[k]? = some v → w.cell? (ad.add k) = some v := fun k v hk => by
    obtain ⟨hlt, he⟩ := List.getElem?_eq_some_iff.1 hk
    obtain ⟨ad', e, hc⟩ := h.row.cell hlt
    obtain rfl := Option.some.inj e
    rw [hc, he]
  have a1 : (⟨(ad.add (j * 3)).block, (ad.add (j * 3)).off + 1, none⟩ : Addr) = ad.add (j * 3 + 1) := by rw [← addr_add_add]; rfl
  have a2 : (⟨(ad.add (j * 3)).block, (ad.add (j * 3)).off + 2, none⟩ : Addr) = ad.add (j * 3 + 2) := by rw [← addr_add_add]; rfl
  rw [a1, a2]
  exact ⟨hc _ _ k0, hc _ _ k1, hc _ _ k2⟩

theorem OwnB.set1 {w : World} {base g n cap : Nat} {l : List UInt8} (h : OwnB w base (.slice (some ⟨g, 0, none⟩) n cap) l) {j : Nat} (hj : j < l.length) (x : UInt8) (y : Int) (hy : y = (x.toNat : Int)) :
    OwnB (w.setCell ⟨g, j, none⟩ (.int .u8 y)) base (.slice (some ⟨g, 0, none⟩) n cap) (l.set j x) := by
  obtain ⟨g', cap', e, hg, hlt, hle, hc⟩ := h.cell
  simp at e
  obtain ⟨rfl, rfl, rfl⟩ := e
  subst hy
  exact (hc j hj).2.2 x

theorem Trip.turn {w : World} {ad : Addr} {n c : Nat} {ts : List (Int × Int × Nat)} (h : Trip w (some ad) n c (ucells ts)) {j : Nat} (hj : j < ts.length) :
    w.cell? (ad.add (j * 3)) = some (.int .i64 ts[j].1) ∧ w.cell? ⟨(ad.add (j * 3)).block, (ad.add (j * 3)).off + 1, none⟩ = some (.int .i64 ts[j].2.1) ∧ w.cell? ⟨(ad.add (j * 3)).block, (ad.add (j * 3)).off + 2, none⟩ = some (.int .u64 ts[j].2.2) := by
  have key : ∀ (xs : List (Int × Int × Nat)) (j : Nat) (hj : j < xs.length), (ucells xs)[j * 3]? = some (.int .i64 xs[j].1) ∧ (ucells xs)[j * 3 + 1]? = some (.int .i64 xs[j].2.1) ∧ (ucells xs)[j * 3 + 2]? = some (.int .u64 xs[j].2.2) := by
    intro xs
    induction xs with
    | nil => intro j hj; simp at hj
    | cons x xs ih =>
      intro j hj
      rcases j with _ | j
      · exact ⟨rfl, rfl, rfl⟩
      · have h := ih j (by simpa using hj)
        rw [show (j + 1) * 3 = j * 3 + 3 by omega]
        exact h
  obtain ⟨k0, k1, k2⟩ := key ts j hj
  have hc : ∀ (k : Nat) (v : Value), (ucells ts)[k]? = some v → w.cell? (ad.add k) = some v := fun k v hk => by
    obtain ⟨hlt, he⟩ := List.getElem?_eq_some_iff.1 hk
    obtain ⟨ad', e, hc⟩ := h.row.cell hlt
    obtain rfl := Option.some.inj e
    rw [hc, he]
  have a1 : (⟨(ad.add (j * 3)).block, (ad.add (j * 3)).off + 1, none⟩ : Addr) = ad.add (j * 3 + 1) := by rw [← addr_add_add]; rfl
  have a2 : (⟨(ad.add (j * 3)).block, (ad.add (j * 3)).off + 2, none⟩ : Addr) = ad.add (j * 3 + 2) := by rw [← addr_add_add]; rfl
  rw [a1, a2]
  exact ⟨hc _ _ k0, hc _ _ k1, hc _ _ k2⟩

theorem Trip.lt3 {w : World} {ad : Addr} {n c : Nat} {cs : List Value} (h : Trip w (some ad) n c cs) {j : Nat} (hj : j < n) : (ad.add (j * 3)).block < w.heap.size :=
  h.row.lt (by rw [h.len]; omega)

theorem ucells_length (xs : List (Int × Int × Nat)) : (ucells xs).length = xs.length * 3 := by
  induction xs with
  | nil => rfl
  | cons x xs ih => simp only [ucells, List.flatMap_cons, List.length_append, List.length_cons, List.length_nil] at ih ⊢; omega

theorem keep3 {w w' : World} {p q r : Addr} {u0 u1 u2 : Value} (h0 : w.cell? p = some u0) (h1 : w.cell? q = some u1) (h2 : w.cell? r = some u2) (hp : p.block < w.heap.size) (hq : q.block < w.heap.size) (hr : r.block < w.heap.size) (hb : Below w.heap.size w w') :
    w'.cell? p = some u0 ∧ w'.cell? q = some u1 ∧ w'.cell? r = some u2 := ⟨(hb.cell hp).trans h0, (hb.cell hq).trans h1, (hb.cell hr).trans h2⟩

/-- A section's numbers, with their bounds. -/
theorem sec_nums (x : Int × Int × Int) : ∃ q fl q2 ch : Nat, bits .and .i64 x.1 16383 = q ∧ q ≤ 16383 ∧ secV x = q + 1 ∧ roundF ((q : Int) + 1) 4096 = fl ∧ secFull x = fl ∧ 4096 ≤ fl ∧ fl ≤ 20480 ∧
    bits .and .i64 x.2.1 8191 = q2 ∧ q2 ≤ 8191 ∧ secRaw x = q2 / 512 * 512 % (fl + 512) ∧ bits .and .i64 x.2.2 7 = ch ∧ ch ≤ 7 ∧ secCh x = ch * 536870912 := by
  obtain ⟨a0, a1⟩ := and_le_i64 x.1 16383 (by omega)
  obtain ⟨b0, b1⟩ := and_le_i64 x.2.1 8191 (by omega)
  obtain ⟨c0, c1⟩ := and_le_i64 x.2.2 7 (by omega)
  obtain ⟨q, hq⟩ := Int.eq_ofNat_of_zero_le a0
  obtain ⟨q2, hq2⟩ := Int.eq_ofNat_of_zero_le b0
  obtain ⟨ch, hch⟩ := Int.eq_ofNat_of_zero_le c0
  have e1 : (bits .and .i64 x.1 16383) = q := hq
  have e2 : (bits .and .i64 x.2.1 8191) = q2 := hq2
  have e3 : (bits .and .i64 x.2.2 7) = ch := hch
  have hv : secV x = q + 1 := by rw [secV, e1]; omega
  obtain ⟨r1, r2, r3⟩ := round_bounds ((q : Int) + 1) (by omega) (by omega)
  obtain ⟨fl, hfl⟩ := Int.eq_ofNat_of_zero_le (show 0 ≤ roundF ((q : Int) + 1) 4096 by omega)
  have hf : secFull x = fl := by rw [secFull, hv]; show (roundF ((q + 1 : Nat) : Int) 4096).toNat = fl; rw [show ((q + 1 : Nat) : Int) = (q : Int) + 1 by omega, hfl]; rfl
  refine ⟨q, fl, q2, ch, e1, by omega, hv, hfl, hf, by omega, by omega, e2, by omega, ?_, e3, by omega, ?_⟩
  · rw [secRaw, hf, e2]; rfl
  · rw [secCh, e3]; rfl

theorem run_makeB (w : World) (n : Nat) (hn : n ≤ 16777216) : ∃ w', (Instr.makeSlice 23 (.int .i64 (n : Int)) (.int .i64 (n : Int))).run Try.prog w = .ok (.slice (some ⟨w.heap.size, 0, none⟩) n n) w' ∧
    OwnB w' w.heap.size (.slice (some ⟨w.heap.size, 0, none⟩) n n) (zer n) ∧ Below w.heap.size w w' ∧ w'.heap.size = w.heap.size + 1 := by
  obtain ⟨i, hi, hz, hs1, hby⟩ := info_parts infoByte
  have := run_makeSlice w 23 5 i _ Try.underlying23 hi hz .i64 .i64 n n (by omega) (by omega) (by rw [hs1]; omega) (by rw [hby]; omega) (by omega)
  rw [hs1, Nat.mul_one, Int.toNat_natCast] at this
  exact ⟨_, this, ownB_made w n (by omega), up_alloc (up_refl _) _, by simp⟩

theorem toNat_mul (c k : Nat) : ((c : Int) * (k : Int)).toNat = c * k := by rw [← Int.natCast_mul]; rfl
theorem zer_succ (n : Nat) : zer (n + 1) = 0 :: zer n := rfl
theorem secMore_zero (j n : Nat) : secMore j 0 ++ zer (n - 0) = zer n := rfl
theorem secMore_step (j i n : Nat) (h : i < n) : (secMore j i ++ zer (n - i)).set i (UInt8.ofNat (i * 7 + j + 1)) = secMore j (i + 1) ++ zer (n - (i + 1)) := by
  have e : secMore j (i + 1) = secMore j i ++ [UInt8.ofNat (i * 7 + j + 1)] := by simp [secMore, List.range_succ]
  rw [e, List.set_append_right _ _ (by rw [secMore_length]; exact Nat.le_refl _), secMore_length, Nat.sub_self, show n - i = (n - (i + 1)) + 1 by omega, zer_succ]
  simp

/-- The sections, one at least. -/
def atLeastOne (xs : List (Int × Int × Int)) : List (Int × Int × Int) := if xs = [] then [(16, 512, 3)] else xs

set_option maxRecDepth 100000 in
set_option maxHeartbeats 2000000 in
theorem law_Made (A1 : Option Addr) (c1 : Nat) (xs : List (Int × Int × Int)) (A2 : Option Addr) (c2 : Nat) (ts : List (Int × Int × Nat)) (w : World) (h1 : Trip w A1 xs.length c1 (tcells xs)) (h2 : Trip w A2 ts.length c2 (ucells ts)) (ht : ∀ t ∈ ts, t.2.2 < 18446744073709551616) :
    Calls Try.prog 12 #[.slice A1 xs.length c1, .slice A2 ts.length c2] w fun e w' => ∃ v', e = .returned v' ∧ OwnB w' w.heap.size v' (madeF xs ts) ∧ Below w.heap.size w w' := by
  obtain ⟨R, hR⟩ : ∃ R, madeF xs ts = R := ⟨_, rfl⟩
  rw [hR]
  have HRR := hid hR
  clear hR
  have H1 := hid h1
  have H2 := hid h2
  have HV := hid ht
  have m1 := h1.mx
  have m2 := h2.mx
  clear h1 h2 ht
  obtain ⟨ys, hys⟩ : ∃ ys, atLeastOne xs = ys := ⟨_, rfl⟩
  have HYS := hid hys
  obtain ⟨n, hn⟩ : ∃ n, xs.length = n := ⟨_, rfl⟩
  rw [hn]
  go_enter Try.func12, Try.ntmps12
  go_upto_if 18 with fail
  go_cut [0] (fun x wb => ∃ A c, x = .slice A ys.length c ∧ Trip wb A ys.length c (tcells ys) ∧ Below w.heap.size w wb)
  case first =>
    by_cases h0 : n = 0
    · have hx : xs = [] := List.eq_nil_of_length_eq_zero (hn.trans h0)
      have hy : ys = [(16, 512, 3)] := by rw [← hys, atLeastOne, if_pos hx]
      subst h0
      clear hys hn
      go_wp2_with fail
      go_meet
      rw [hy]
      exact ⟨some ⟨w.heap.size, 0, none⟩, 1, rfl, ⟨Row.new w _ _, rfl, Nat.le_refl _, by decide⟩, up_alloc (up_refl _) _⟩
    · have hx : xs ≠ [] := fun e => h0 (by rw [← hn, e]; rfl)
      have hy : ys = xs := by rw [← hys, atLeastOne, if_neg hx]
      have dn : ((n : Int) == 0) = false := by rw [beq_eq_false_iff_ne]; omega
      clear hys
      go_wp2_with fail
      go_meet
      rw [hy, ← hn]
      exact ⟨A1, c1, rfl, H1.out, up_refl _⟩
  case rest =>
    obtain ⟨A, c, rfl, hT, hb⟩ := hcut
    have HT := hid hT
    have HB := hid hb
    have m3 := hT.mx
    clear hT hb
    obtain ⟨N, hN⟩ : ∃ N, (sectsOf xs).length = N := ⟨_, rfl⟩
    have hN2 : N = min ys.length 6 := by rw [← hN, sectsOf, ← hys, atLeastOne, List.length_take, Nat.min_comm]
    obtain ⟨k, hk⟩ : ∃ k, ys.length = k := ⟨_, rfl⟩
    rw [hk] at hN2 m3
    have HN := hid hN
    have HK := hid hk
    have HY := hid hys
    rw [hk]
    clear hN hk hys
    have hmin : min (k : Int) 6 = (N : Int) := by omega
    have hN6 : N ≤ 6 := by omega
    have HN2 := hid hN2
    clear hN2
    obtain ⟨w1, hw1⟩ : ∃ w1, w1 = wc.alloc (.cells (madeCells #[.int .u8 0] 1024) 5) := ⟨_, rfl⟩
    have hmk : (Instr.makeSlice 23 (.int .i64 1024) (.int .i64 1024)).run Try.prog wc = .ok (.slice (some ⟨wc.heap.size, 0, none⟩) 1024 1024) w1 := by
      obtain ⟨i, hi, hz, hs1, hby⟩ := info_parts infoByte
      have := run_makeSlice wc 23 5 i _ Try.underlying23 hi hz .i64 .i64 1024 1024 (by omega) (by omega) (by rw [hs1]; decide) (by rw [hby]; decide) (by omega)
      rw [hs1] at this
      rw [hw1]
      exact this
    have o1 : OwnB w1 wc.heap.size (.slice (some ⟨wc.heap.size, 0, none⟩) 1024 1024) (zer 1024) := hw1 ▸ ownB_made wc 1024 (by omega)
    have u1 : Below w.heap.size w w1 := hw1 ▸ up_alloc HB.out _
    have UC : Hid (Below wc.heap.size wc w1) := hw1 ▸ up_alloc (up_refl _) _
    have O1 := hid o1
    have U1 := hid u1
    have s1 : wc.heap.size < w1.heap.size := by rw [hw1]; simp
    clear hw1 o1 u1
    go_wp2_with (refine wp_copyB (by rfl) (.tmp 25) (.const (.string (S [77, 90]))) (by rfl) sizeByte wc.heap.size wc.heap.size 1024 1024 0 1024 1024 (zer 1024) [77, 90] O1.out (by rfl) (by rfl) (by decide) (by rw [zer_length]; decide) ?_; intro w2 o2 b2)
    have U2 := hid (b2 wc UC.out)
    obtain ⟨l2, hl2⟩ : ∃ l, l = splL (zer 1024) 0 [77, 90] := ⟨_, rfl⟩
    have L2 : Hid (l2.length = 1024) := by rw [hl2]; exact (splL_length _ _ _ (by rw [zer_length]; decide)).trans (zer_length _)
    have O2 : Hid (OwnB w2 wc.heap.size (.slice (some ⟨wc.heap.size, 0, none⟩) 1024 1024) l2) := by rw [hl2]; exact o2
    have E2 := hid hl2
    clear o2 b2 hl2
    -- PUTS
    refine (law_putO _ _ _ 60 4 64 w2 O2.out (by rw [L2.out]; omega) (by omega) (by omega) (by omega) (by omega) (by omega) (by omega)).mono ?_
    rintro e w3 ⟨v3, rfl, o3, b3⟩
    have U3 := hid (up_trans U2.out b3)
    have U23 := hid b3
    obtain ⟨l3, hl3⟩ : ∃ l, l = putF l2 60 4 64 := ⟨_, rfl⟩
    have L3 : Hid (l3.length = 1024) := by rw [hl3, putF_length]; exact L2.out
    have O3 : Hid (OwnB w3 w2.heap.size v3 l3) := by rw [hl3]; exact o3
    have E3 := hid hl3
    clear o3 b3 hl3
    obtain ⟨g3, p3, hv3, hg3, hlt3, hbs3⟩ := O3.out.bs
    have P3 : Hid (1024 ≤ p3) := by have := hbs3.le; rw [L3.out] at this; exact this
    have hsl : (Instr.slice 23 (.slice (some ⟨g3, 0, none⟩) 1024 p3) (some (.int .i64 64)) none none).run Try.prog w3 = .ok (.slice (some ⟨g3, 64, none⟩) 960 (p3 - 64)) w3 := slice_64 g3 p3 w3 P3.out
    rw [L3.out] at hv3
    have O3' : Hid (OwnB w3 w2.heap.size (.slice (some ⟨g3, 0, none⟩) 1024 p3) l3) := hv3 ▸ O3.out
    subst hv3
    clear hg3 hlt3 hbs3 O3
    go_wp2_with (refine wp_copyB (by rfl) (.tmp 30) (.const (.string (S [80, 69, 0, 0]))) (by rfl) sizeByte w2.heap.size g3 1024 p3 64 960 (p3 - 64) l3 [80, 69, 0, 0] O3'.out (by rfl) (by rfl) (by decide) (by rw [L3.out]; decide) ?_; intro w4 o4 b4)
    have U4 := hid (up_trans U2.out (b4 w2 U23.out))
    obtain ⟨l4, hl4⟩ : ∃ l, l = splL l3 64 [80, 69, 0, 0] := ⟨_, rfl⟩
    have L4 : Hid (l4.length = 1024) := by rw [hl4]; exact (splL_length _ _ _ (by rw [L3.out]; decide)).trans L3.out
    have O4 : Hid (OwnB w4 w2.heap.size (.slice (some ⟨g3, 0, none⟩) 1024 p3) l4) := by rw [hl4]; exact o4
    have E4 := hid hl4
    clear o4 b4 hl4 hsl
    refine (law_putO _ _ _ 68 2 34404 w4 O4.out (by rw [L4.out]; omega) (by omega) (by omega) (by omega) (by omega) (by omega) (by omega)).mono ?_
    rintro e w5 ⟨v5, rfl, o5, b5⟩
    have U5 := hid (up_trans U4.out b5)
    obtain ⟨l5, hl5⟩ : ∃ l, l = putF l4 68 2 34404 := ⟨_, rfl⟩
    have L5 : Hid (l5.length = 1024) := by rw [hl5, putF_length]; exact L4.out
    have O5 : Hid (OwnB w5 w4.heap.size v5 l5) := by rw [hl5]; exact o5
    have E5 := hid hl5
    clear o5 b5 hl5
    go_wp2_with fail
    refine (law_putO _ _ _ 70 2 N w5 O5.out (by rw [L5.out]; omega) (by omega) (by omega) (by omega) (by omega) (by omega) (by omega)).mono ?_
    rintro e w6 ⟨v6, rfl, o6, b6⟩
    have U6 := hid (up_trans U5.out b6)
    obtain ⟨l6, hl6⟩ : ∃ l, l = putF l5 70 2 N := ⟨_, rfl⟩
    have L6 : Hid (l6.length = 1024) := by rw [hl6, putF_length]; exact L5.out
    have O6 : Hid (OwnB w6 w5.heap.size v6 l6) := by rw [hl6]; exact o6
    have E6 := hid hl6
    clear o6 b6 hl6
    go_wp2_with fail
    refine (law_putO _ _ _ 72 4 77 w6 O6.out (by rw [L6.out]; omega) (by omega) (by omega) (by omega) (by omega) (by omega) (by omega)).mono ?_
    rintro e w7 ⟨v7, rfl, o7, b7⟩
    have U7 := hid (up_trans U6.out b7)
    obtain ⟨l7, hl7⟩ : ∃ l, l = putF l6 72 4 77 := ⟨_, rfl⟩
    have L7 : Hid (l7.length = 1024) := by rw [hl7, putF_length]; exact L6.out
    have O7 : Hid (OwnB w7 w6.heap.size v7 l7) := by rw [hl7]; exact o7
    have E7 := hid hl7
    clear o7 b7 hl7
    go_wp2_with fail
    refine (law_putO _ _ _ 84 2 240 w7 O7.out (by rw [L7.out]; omega) (by omega) (by omega) (by omega) (by omega) (by omega) (by omega)).mono ?_
    rintro e w8 ⟨v8, rfl, o8, b8⟩
    have U8 := hid (up_trans U7.out b8)
    obtain ⟨l8, hl8⟩ : ∃ l, l = putF l7 84 2 240 := ⟨_, rfl⟩
    have L8 : Hid (l8.length = 1024) := by rw [hl8, putF_length]; exact L7.out
    have O8 : Hid (OwnB w8 w7.heap.size v8 l8) := by rw [hl8]; exact o8
    have E8 := hid hl8
    clear o8 b8 hl8
    go_wp2_with fail
    refine (law_putO _ _ _ 86 2 8226 w8 O8.out (by rw [L8.out]; omega) (by omega) (by omega) (by omega) (by omega) (by omega) (by omega)).mono ?_
    rintro e w9 ⟨v9, rfl, o9, b9⟩
    have U9 := hid (up_trans U8.out b9)
    obtain ⟨l9, hl9⟩ : ∃ l, l = putF l8 86 2 8226 := ⟨_, rfl⟩
    have L9 : Hid (l9.length = 1024) := by rw [hl9, putF_length]; exact L8.out
    have O9 : Hid (OwnB w9 w8.heap.size v9 l9) := by rw [hl9]; exact o9
    have E9 := hid hl9
    clear o9 b9 hl9
    go_wp2_with fail
    refine (law_putO _ _ _ 88 2 523 w9 O9.out (by rw [L9.out]; omega) (by omega) (by omega) (by omega) (by omega) (by omega) (by omega)).mono ?_
    rintro e w10 ⟨v10, rfl, o10, b10⟩
    have U10 := hid (up_trans U9.out b10)
    obtain ⟨l10, hl10⟩ : ∃ l, l = putF l9 88 2 523 := ⟨_, rfl⟩
    have L10 : Hid (l10.length = 1024) := by rw [hl10, putF_length]; exact L9.out
    have O10 : Hid (OwnB w10 w9.heap.size v10 l10) := by rw [hl10]; exact o10
    have E10 := hid hl10
    clear o10 b10 hl10
    go_wp2_with fail
    refine (law_putO _ _ _ 112 8 65536 w10 O10.out (by rw [L10.out]; omega) (by omega) (by omega) (by omega) (by omega) (by omega) (by omega)).mono ?_
    rintro e w11 ⟨v11, rfl, o11, b11⟩
    have U11 := hid (up_trans U10.out b11)
    obtain ⟨l11, hl11⟩ : ∃ l, l = putF l10 112 8 65536 := ⟨_, rfl⟩
    have L11 : Hid (l11.length = 1024) := by rw [hl11, putF_length]; exact L10.out
    have O11 : Hid (OwnB w11 w10.heap.size v11 l11) := by rw [hl11]; exact o11
    have E11 := hid hl11
    clear o11 b11 hl11
    go_wp2_with fail
    refine (law_putO _ _ _ 120 4 4096 w11 O11.out (by rw [L11.out]; omega) (by omega) (by omega) (by omega) (by omega) (by omega) (by omega)).mono ?_
    rintro e w12 ⟨v12, rfl, o12, b12⟩
    have U12 := hid (up_trans U11.out b12)
    obtain ⟨l12, hl12⟩ : ∃ l, l = putF l11 120 4 4096 := ⟨_, rfl⟩
    have L12 : Hid (l12.length = 1024) := by rw [hl12, putF_length]; exact L11.out
    have O12 : Hid (OwnB w12 w11.heap.size v12 l12) := by rw [hl12]; exact o12
    have E12 := hid hl12
    clear o12 b12 hl12
    go_wp2_with fail
    refine (law_putO _ _ _ 124 4 512 w12 O12.out (by rw [L12.out]; omega) (by omega) (by omega) (by omega) (by omega) (by omega) (by omega)).mono ?_
    rintro e w13 ⟨v13, rfl, o13, b13⟩
    have U13 := hid (up_trans U12.out b13)
    obtain ⟨l13, hl13⟩ : ∃ l, l = putF l12 124 4 512 := ⟨_, rfl⟩
    have L13 : Hid (l13.length = 1024) := by rw [hl13, putF_length]; exact L12.out
    have O13 : Hid (OwnB w13 w12.heap.size v13 l13) := by rw [hl13]; exact o13
    have E13 := hid hl13
    clear o13 b13 hl13
    go_wp2_with fail
    refine (law_putO _ _ _ 148 4 1024 w13 O13.out (by rw [L13.out]; omega) (by omega) (by omega) (by omega) (by omega) (by omega) (by omega)).mono ?_
    rintro e w14 ⟨v14, rfl, o14, b14⟩
    have U14 := hid (up_trans U13.out b14)
    obtain ⟨l14, hl14⟩ : ∃ l, l = putF l13 148 4 1024 := ⟨_, rfl⟩
    have L14 : Hid (l14.length = 1024) := by rw [hl14, putF_length]; exact L13.out
    have O14 : Hid (OwnB w14 w13.heap.size v14 l14) := by rw [hl14]; exact o14
    have E14 := hid hl14
    clear o14 b14 hl14
    go_wp2_with fail
    refine (law_putO _ _ _ 196 4 16 w14 O14.out (by rw [L14.out]; omega) (by omega) (by omega) (by omega) (by omega) (by omega) (by omega)).mono ?_
    rintro e w15 ⟨v15, rfl, o15, b15⟩
    have U15 := hid (up_trans U14.out b15)
    obtain ⟨l15, hl15⟩ : ∃ l, l = putF l14 196 4 16 := ⟨_, rfl⟩
    have L15 : Hid (l15.length = 1024) := by rw [hl15, putF_length]; exact L14.out
    have O15 : Hid (OwnB w15 w14.heap.size v15 l15) := by rw [hl15]; exact o15
    have E15 := hid hl15
    clear o15 b15 hl15
    go_wp2_with fail
    -- PUTS END
    have EB : Hid (l15 = made0 N) := by
      rw [E15.out, E14.out, E13.out, E12.out, E11.out, E10.out, E9.out, E8.out, E7.out, E6.out, E5.out, E4.out, E3.out, E2.out]
      rfl
    have HL : Hid (wc.heap.size ≤ w14.heap.size) := U14.out.size
    have O := hid (O15.out.mono HL.out)
    clear E15 E14 E13 E12 E11 E10 E9 E8 E7 E6 E5 E4 E3 E2 O14 O13 O12 O11 O10 O9 O8 O7 O6 O5 O4 O3' O2 O1 O15 L14 L13 L12 L11 L10 L9 L8 L7 L6 L5 L4 L3 L2 U14 U13 U12 U11 U10 U9 U8 U7 U6 U5 U4 U3 U2 U23 UC U1 P3
    obtain ⟨zs, hzs⟩ : ∃ zs, sectsOf xs = zs := ⟨_, rfl⟩
    obtain ⟨G, hG⟩ : ∃ G, madeGo zs 0 4096 (made0 N) = G := ⟨_, rfl⟩
    have HZ := hid hzs
    have HG := hid hG
    have HZL : Hid (zs.length = N) := by rw [← hzs]; exact HN.out
    clear hzs hG
    go_loopg [6, 7, 8] N (fun k b rva i wr => ∃ (j r : Nat) (l : List UInt8), i = .int .i64 j ∧ rva = .int .i64 r ∧ j + k = N ∧ OwnB wr wc.heap.size b l ∧ Below wc.heap.size wc wr ∧ 1024 ≤ l.length ∧ l.length ≤ 1024 + 8192 * j ∧ r ≤ 4096 + 20480 * j ∧
      Hid (madeGo (zs.drop j) j r l = G))
    case atStart =>
      refine ⟨0, 4096, l15, rfl, rfl, by omega, O.out, U15.out, by rw [L15.out]; omega, by rw [L15.out]; omega, by omega, ?_⟩
      rw [EB.out]
      exact HG
    case round =>
      obtain ⟨j, r, l, rfl, rfl, hjk, hO, hU, hl0, hl1, hr1, hgo⟩ := hrel
      rcases gk with _ | m
      · have hjn : ((j : Int) < (N : Int)) = False := by simp; omega
        have hG : G = (l, r) := by
          rw [← hgo, List.drop_of_length_le (by rw [HZL.out]; omega)]
          rfl
        have HGE := hid hG
        have HU := hid hU
        have HO := hid hO
        clear hG hgo hU hO
        go_wp2_with fail
        refine (law_putO _ _ _ 144 4 (r : Int) _ HO.out (by omega) (by omega) (by omega) (by omega) (by omega) (by omega) (by omega)).mono ?_
        rintro e x1 ⟨y1, rfl, o1, b1⟩
        obtain ⟨m1, hm1⟩ : ∃ m, m = putF l 144 4 r := ⟨_, rfl⟩
        have HM1 : Hid (m1.length = l.length) := by rw [hm1, putF_length]; exact rfl
        have OM1 : Hid (OwnB x1 wc.heap.size y1 m1) := by rw [hm1]; exact o1.mono HU.out.size
        have UM1 := hid (up_trans HU.out b1)
        have HR : Hid (turnsF (ts.take 4) m1 = R) := by
          rw [hm1, ← HRR.out]
          show _ = turnsF (ts.take 4) (putF (madeGo (sectsOf xs) 0 4096 (made0 (sectsOf xs).length)).1 144 4 (madeGo (sectsOf xs) 0 4096 (made0 (sectsOf xs).length)).2)
          rw [HZ.out, HZL.out, HG.out, HGE.out]
        obtain ⟨q, hq⟩ : ∃ q, (ts.take 4).length = q := ⟨_, rfl⟩
        have hq4 : q = min 4 ts.length := by rw [← hq, List.length_take]
        have HQ4 := hid hq4
        have HQ := hid hq
        clear o1 b1 hm1 hq4 hq
        go_wp2_with fail
        go_loopg [6, 15] q (fun k b i wr => ∃ (j : Nat) (l : List UInt8), i = .int .i64 j ∧ j + k = q ∧ OwnB wr wc.heap.size b l ∧ Below wc.heap.size wc wr ∧ l.length ≤ 60000 ∧ Hid (turnsF ((ts.take 4).drop j) l = R))
        case atStart => exact ⟨0, m1, rfl, by omega, OM1.out, UM1.out, by rw [HM1.out]; omega, HR.out⟩
        case round =>
          obtain ⟨j2, l2', rfl, hjk2, hO2, hU2, hl2', hR2⟩ := hrel
          rcases gk with _ | m
          · have dq : decide ((j2 : Int) < (ts.length : Int)) = true ∧ decide ((j2 : Int) < 4) = false ∨ decide ((j2 : Int) < (ts.length : Int)) = false := by
              have := HQ4.out
              simp only [decide_eq_true_eq, decide_eq_false_iff_not]
              omega
            have hR3 : l2' = R := by
              rw [← hR2, List.drop_of_length_le (by rw [HQ.out]; omega)]
              rfl
            have HR3 := hid hR3
            have HU := hid hU2
            have HO := hid hO2
            clear hR2 hU2 hO2 hR3
            have dn : decide (j2 < ts.length) = decide ((j2 : Int) < (ts.length : Int)) := by simp
            rcases dq with ⟨d1, d2⟩ | d1
            all_goals
              rw [d1] at dn
              go_wp2_with fail
              go_ret
              refine ⟨_, rfl, ?_, up_trans HB.out HU.out⟩
              rw [← HR3.out]
              exact HO.out.mono HB.out.size
          · have dl : j2 < ts.length := by have := HQ4.out; omega
            have d1 : decide ((j2 : Int) < (ts.length : Int)) = true := by simp; omega
            have d2 : decide ((j2 : Int) < 4) = true := by have := HQ4.out; simp; omega
            have d3 : decide (j2 < ts.length) = true := by simp; omega
            obtain ⟨ad, rfl⟩ : ∃ ad, A2 = some ad := by
              obtain ⟨ad, e, _⟩ := H2.out.row.cell (j := j2 * 3) (by rw [ucells_length]; omega)
              exact ⟨ad, e⟩
            obtain ⟨t, ht⟩ : ∃ t, ts[j2] = t := ⟨_, rfl⟩
            obtain ⟨s0, s1, s2⟩ := ((H2.out.below HB.out).below hU2).turn dl
            rw [ht] at s0 s1 s2
            have hlt : (ad.add (j2 * 3)).block < wr.heap.size := ((H2.out.below HB.out).below hU2).lt3 dl
            have hv : t.2.2 < 18446744073709551616 := ht ▸ HV.out _ (List.getElem_mem _)
            obtain ⟨a0, a1⟩ := and_le_i64 t.1 1023 (by omega)
            obtain ⟨b0, b1⟩ := and_le_i64 t.2.1 7 (by omega)
            obtain ⟨qa, ha⟩ := Int.eq_ofNat_of_zero_le a0
            obtain ⟨qb, hb⟩ := Int.eq_ofNat_of_zero_le b0
            have e1 : bits .and .i64 t.1 1023 = (qa : Int) := ha
            have e2 : bits .and .i64 t.2.1 7 = (qb : Int) := hb
            have k1 : IntKind.i64.wrap ((qb : Int) + 1) = (qb : Int) + 1 := wrap_i64_id (by omega) (by omega)
            have f1 : qa ≤ 1023 := by omega
            have f2 : qb ≤ 7 := by omega
            have HT := hid ht
            have HU := hid hU2
            have HO := hid hO2
            clear ha hb hU2 hO2 ht a0 a1 b0 b1
            go_upto_region 45 with fail
            go_region_held3 (fun w' => w'.cell? (ad.add (j2 * 3)) = some (.int .i64 t.1) ∧ w'.cell? ⟨(ad.add (j2 * 3)).block, (ad.add (j2 * 3)).off + 1, none⟩ = some (.int .i64 t.2.1) ∧ w'.cell? ⟨(ad.add (j2 * 3)).block, (ad.add (j2 * 3)).off + 2, none⟩ = some (.int .u64 t.2.2))
              (first | exact ⟨s0, s1, s2⟩ | exact keep3 s0 s1 s2 hlt hlt hlt ‹Below _ _ _› | exact keep3 s0 s1 s2 hlt hlt hlt (below_undrew ‹Below _ _ _›))
              (first
                | (go_at_call 17; refine (law_putO _ _ _ _ _ _ _ (HO.out.below (by repeat (with_reducible (first | exact up_refl _ | refine up_drew ?_)))) (by omega) (by omega) (by omega) (by omega) (by omega) (by omega) (by omega)).mono ?_; rintro e w' ⟨v', rfl, o', b'⟩))
            all_goals
              go_wp2_with fail
              go_roundg m
              case measure => omega
              case rel =>
                have bb : Below wr.heap.size wr w' := by first | exact b' | exact below_undrew b'
                have ho : OwnB w' wc.heap.size v' (putF l2' qa (qb + 1) t.2.2) := o'.mono HU.out.size
                refine ⟨j2 + 1, putF l2' qa (qb + 1) t.2.2, by go_num, by omega, ho, up_trans HU.out bb, by rw [putF_length]; exact hl2', ?_⟩
                have hd : (ts.take 4).drop j2 = t :: (ts.take 4).drop (j2 + 1) := by
                  have hlt2 : j2 < (ts.take 4).length := by rw [HQ.out]; omega
                  rw [List.drop_eq_getElem_cons hlt2]
                  congr 1
                  rw [← HT.out, List.getElem_take]
                have h := hR2
                rw [hd, turnsF] at h
                have g1 : (bits .and .i64 t.1 1023).toNat = qa := by rw [e1]; rfl
                have g2 : (bits .and .i64 t.2.1 7).toNat = qb := by rw [e2]; rfl
                rw [g1, g2] at h
                exact h
      · have hjn : ((j : Int) < (N : Int)) = True := by simp; omega
        have hjk2 : j < ys.length := by have h1 := HN2.out; have h2 := HK.out; omega
        obtain ⟨ad, rfl⟩ : ∃ ad, A = some ad := by
          obtain ⟨ad, e, _⟩ := HT.out.row.cell (j := j * 3) (by rw [tcells_length]; omega)
          exact ⟨ad, e⟩
        obtain ⟨x, hx⟩ : ∃ x, ys[j] = x := ⟨_, rfl⟩
        obtain ⟨s0, s1, s2⟩ := (HT.out.below hU).cells hjk2
        rw [hx] at s0 s1 s2
        obtain ⟨q, fl, q2, ch, e1, e1b, e1v, e2, e2f, e2a, e2b, e3, e3b, e3r, e4, e4b, e4c⟩ := sec_nums x
        obtain ⟨g, p, hv, hg, hglt, hpl, hcs⟩ := hO.cell
        obtain ⟨a, ha⟩ : ∃ a, 328 + 40 * j = a := ⟨_, rfl⟩
        have haI : (328 : Int) + 40 * (j : Int) = (a : Int) := by omega
        have haB : a + 40 ≤ 568 + 1 := by omega
        obtain ⟨b0, z0, z1⟩ : ∃ b, wr.cell? ⟨g, a, none⟩ = some b ∧ wr.frozen? ⟨g, a, none⟩ = false := ⟨_, (hcs a (by omega)).1, (hcs a (by omega)).2.1⟩
        obtain ⟨b1, y0, y1⟩ : ∃ b, wr.cell? ⟨g, a + 1, none⟩ = some b ∧ wr.frozen? ⟨g, a + 1, none⟩ = false := ⟨_, (hcs (a + 1) (by omega)).1, (hcs (a + 1) (by omega)).2.1⟩
        have HE := hid (⟨e1v, e2f, e3r, e4c⟩ : secV x = q + 1 ∧ secFull x = fl ∧ secRaw x = q2 / 512 * 512 % (fl + 512) ∧ secCh x = ch * 536870912)
        have HX := hid hx
        have HA := hid ha
        have HGO := hgo
        have HU := hid hU
        have HO := hid hO
        clear hcs e1v e2f e3r e4c hx ha hgo hU hO
        subst hv
        have E2 := hid e2
        clear e2
        obtain ⟨rv, hrvn⟩ : ∃ rv : Nat, q2 / 512 * 512 % (fl + 512) = rv := ⟨_, rfl⟩
        have hrv : (q2 : Int) / 512 * 512 % ((fl : Int) + 512) = (rv : Int) := by rw [← hrvn]; simp
        have rvb : rv ≤ 8191 := by
          have := Nat.mod_le (q2 / 512 * 512) (fl + 512)
          omega
        have HRV := hid hrvn
        clear hrvn
        go_wp2_with fail
        refine (ref_Round _ _ _ (by omega)).mono ?_
        rintro e w' ⟨rfl, rfl⟩
        rw [E2.out]
        go_wp2_with fail
        -- ROUND
        obtain ⟨x0, hx0⟩ : ∃ x0, x0 = (wr.setCell ⟨g, a, none⟩ (.int .u8 115)).setCell ⟨g, a + 1, none⟩ (.int .u8 (48 + (j : Int))) := ⟨_, rfl⟩
        obtain ⟨m0, hm0⟩ : ∃ m, m = (l.set a 115).set (a + 1) (UInt8.ofNat (48 + j)) := ⟨_, rfl⟩
        have HM0 : Hid (m0.length = l.length) := by rw [hm0]; simp [Hid]
        have OM0 : Hid (OwnB x0 wc.heap.size (.slice (some ⟨g, 0, none⟩) l.length p) m0) := by
          rw [hx0, hm0]
          exact (HO.out.set1 (j := a) (by omega) 115 115 (by rfl)).set1 (j := a + 1) (by rw [List.length_set]; omega) (UInt8.ofNat (48 + j)) (48 + (j : Int)) (by simp; omega)
        have UB0 : Hid (Below wc.heap.size wc x0) := by
          rw [hx0]
          exact up_set (up_set HU.out hg _) hg _
        have M0 := hid hm0
        rw [← hx0]
        clear hm0 hx0 z0 z1 y0 y1
        refine (law_putO _ _ _ ((a : Int) + 8) 4 ((q : Int) + 1) _ OM0.out (by rw [HM0.out]; omega) (by omega) (by omega) (by omega) (by omega) (by omega) (by omega)).mono ?_
        rintro e x1 ⟨y1, rfl, o1, b1⟩
        obtain ⟨m1, hm1⟩ : ∃ m, m = putF m0 (a + 8) 4 (q + 1) := ⟨_, rfl⟩
        have M1 := hid hm1
        have HM1 : Hid (m1.length = l.length) := by rw [hm1, putF_length]; exact HM0.out
        have OM1 : Hid (OwnB x1 wc.heap.size y1 m1) := by
          rw [hm1]
          have e1 : ((a : Int) + 8).toNat = a + 8 := by omega
          have e2 : (((q : Int) + 1)).toNat = (q + 1) := by omega
          rw [e1, e2] at o1
          exact o1.mono UB0.out.size
        have UB1 := hid (up_trans UB0.out b1)
        clear o1 b1 hm1
        go_wp2_with fail
        refine (law_putO _ _ _ ((a : Int) + 12) 4 (r : Int) _ OM1.out (by rw [HM1.out]; omega) (by omega) (by omega) (by omega) (by omega) (by omega) (by omega)).mono ?_
        rintro e x2 ⟨y2, rfl, o2, b2⟩
        obtain ⟨m2, hm2⟩ : ∃ m, m = putF m1 (a + 12) 4 r := ⟨_, rfl⟩
        have M2 := hid hm2
        have HM2 : Hid (m2.length = l.length) := by rw [hm2, putF_length]; exact HM1.out
        have OM2 : Hid (OwnB x2 wc.heap.size y2 m2) := by
          rw [hm2]
          have e1 : ((a : Int) + 12).toNat = a + 12 := by omega
          have e2 : ((r : Int)).toNat = r := by omega
          rw [e1, e2] at o2
          exact o2.mono UB1.out.size
        have UB2 := hid (up_trans UB1.out b2)
        clear o2 b2 hm2
        go_wp2_with fail
        refine (law_putO _ _ _ ((a : Int) + 16) 4 (rv : Int) _ OM2.out (by rw [HM2.out]; omega) (by omega) (by omega) (by omega) (by omega) (by omega) (by omega)).mono ?_
        rintro e x3 ⟨y3, rfl, o3, b3⟩
        obtain ⟨m3, hm3⟩ : ∃ m, m = putF m2 (a + 16) 4 rv := ⟨_, rfl⟩
        have M3 := hid hm3
        have HM3 : Hid (m3.length = l.length) := by rw [hm3, putF_length]; exact HM2.out
        have OM3 : Hid (OwnB x3 wc.heap.size y3 m3) := by
          rw [hm3]
          have e1 : ((a : Int) + 16).toNat = a + 16 := by omega
          have e2 : ((rv : Int)).toNat = rv := by omega
          rw [e1, e2] at o3
          exact o3.mono UB2.out.size
        have UB3 := hid (up_trans UB2.out b3)
        clear o3 b3 hm3
        obtain ⟨g4, p4, hv4, hg4, hlt4, hbs4⟩ := OM3.out.bs
        have hl4 : m3.length ≤ p4 := hbs4.le
        rw [HM3.out] at hv4 hl4
        subst hv4
        clear hbs4
        go_wp2_with fail
        refine (law_putO _ _ _ ((a : Int) + 20) 4 (l.length : Int) _ OM3.out (by rw [HM3.out]; omega) (by omega) (by omega) (by omega) (by omega) (by omega) (by omega)).mono ?_
        rintro e x4 ⟨y4, rfl, o4, b4⟩
        obtain ⟨m4, hm4⟩ : ∃ m, m = putF m3 (a + 20) 4 l.length := ⟨_, rfl⟩
        have M4 := hid hm4
        have HM4 : Hid (m4.length = l.length) := by rw [hm4, putF_length]; exact HM3.out
        have OM4 : Hid (OwnB x4 wc.heap.size y4 m4) := by
          rw [hm4]
          have e1 : ((a : Int) + 20).toNat = a + 20 := by omega
          have e2 : ((l.length : Int)).toNat = l.length := by omega
          rw [e1, e2] at o4
          exact o4.mono UB3.out.size
        have UB4 := hid (up_trans UB3.out b4)
        clear o4 b4 hm4
        obtain ⟨-, -, s2'⟩ := (HT.out.below UB4.out).cells hjk2
        rw [HX.out] at s2'
        go_wp2_with fail
        refine (law_putO _ _ _ ((a : Int) + 36) 4 ((ch : Int) * 536870912) _ OM4.out (by rw [HM4.out]; omega) (by omega) (by omega) (by omega) (by omega) (by omega) (by omega)).mono ?_
        rintro e x5 ⟨y5, rfl, o5, b5⟩
        obtain ⟨m5, hm5⟩ : ∃ m, m = putF m4 (a + 36) 4 (ch * 536870912) := ⟨_, rfl⟩
        have M5 := hid hm5
        have HM5 : Hid (m5.length = l.length) := by rw [hm5, putF_length]; exact HM4.out
        have OM5 : Hid (OwnB x5 wc.heap.size y5 m5) := by
          rw [hm5]
          have e1 : ((a : Int) + 36).toNat = a + 36 := by omega
          have e2 : (((ch : Int) * 536870912)).toNat = (ch * 536870912) := toNat_mul ch 536870912
          rw [e1, e2] at o5
          exact o5.mono UB4.out.size
        have UB5 := hid (up_trans UB4.out b5)
        clear o5 b5 hm5
        obtain ⟨x6, hmk6, o6, b6, s6⟩ := run_makeB x5 rv (by omega)
        have O6 := hid o6
        have B6 := hid b6
        clear o6 b6
        go_wp2_with fail
        go_loopw [14] (fun kk wm => ∃ i : Nat, i ≤ rv ∧ kk = .int .i64 i ∧ OwnB wm x5.heap.size (.slice (some ⟨x5.heap.size, 0, none⟩) rv rv) (secMore j i ++ zer (rv - i)) ∧ Below x5.heap.size x5 wm) (fun kk _ => rv - (intOf kk).toNat)
        case atStart => exact ⟨0, Nat.zero_le _, rfl, (secMore_zero j rv).symm ▸ O6.out, B6.out⟩
        case round =>
          obtain ⟨i, hi, rfl, hO6, hB6⟩ := hrel
          by_cases hik : i < rv
          · obtain ⟨b2, v0, v1⟩ : ∃ b, wr.cell? ⟨x5.heap.size, i, none⟩ = some b ∧ wr.frozen? ⟨x5.heap.size, i, none⟩ = false := by
              obtain ⟨g', cap', e, hg, hlt, hle, hc⟩ := hO6.cell
              simp at e
              obtain ⟨rfl, -, rfl⟩ := e
              exact ⟨_, (hc i (by simp [secMore_length, zer_length]; omega)).1, (hc i (by simp [secMore_length, zer_length]; omega)).2.1⟩
            have HO6 := hid hO6
            have HB6 := hid hB6
            clear hO6 hB6
            go_wp2_with fail
            go_roundw
            case measure => simp [intOf]; omega
            case rel =>
              refine ⟨i + 1, by omega, by go_num, ?_, up_set HB6.out (Nat.le_refl _) _⟩
              rw [← secMore_step j i rv hik]
              exact HO6.out.set1 (j := i) (by simp [secMore_length, zer_length]; omega) _ _ (by simp <;> omega)
          · obtain rfl : i = rv := by omega
            have HO6 := hid hO6
            have HB6 := hid hB6
            clear hO6 hB6 hik hi
            obtain ⟨mm, hmm⟩ : ∃ mm, secMore j i ++ zer (i - i) = mm := ⟨_, rfl⟩
            rw [hmm] at HO6
            have hmml : mm.length = i := by rw [← hmm]; simp [secMore_length, zer_length]
            have HMM := hid hmm
            have HML := hid hmml
            have OM6 := hid (OM5.out.below HB6.out)
            have UB6 := hid (up_trans UB5.out HB6.out)
            have hm5 : m5.length ≤ 60000 := by rw [HM5.out]; omega
            have BM : Hid (Bs wr (some ⟨x5.heap.size, 0, none⟩) i mm) := by
              obtain ⟨g', cap', e, -, -, hbs⟩ := HO6.out.bs
              simp at e
              obtain ⟨rfl, -, rfl⟩ := e
              exact hbs
            clear hmm hmml
            go_wp2_with (refine wp_appB (by rfl) (.tmp 147) (.tmp 148) (by rfl) infoByte wc.heap.size y5 m5 mm ⟨x5.heap.size, 0, none⟩ i (by rfl) OM6.out (by rw [HML.out]; rfl) BM.out (by rw [HML.out]; omega) UB6.out.size ?_; intro v7 w7 o7 b7)
            go_roundg m
            case measure => omega
            case rel =>
              refine ⟨j + 1, r + fl, m5 ++ mm, by go_num, by go_num, by omega, o7, b7 wc UB6.out, ?_, ?_, by omega, ?_⟩
              · rw [List.length_append, HM5.out]; omega
              · rw [List.length_append, HM5.out, HML.out]; omega
              · have e : madeStep l r j x = m5 ++ mm := by
                  obtain ⟨h1, h2, h3, h4⟩ := HE.out
                  have hm3 := HM3.out
                  have hmm : secMore j i = mm := by rw [← HMM.out, Nat.sub_self]; simp [zer]
                  simp only [madeStep]
                  rw [HA.out, h1, h3, h4, HRV.out, ← M0.out, ← M1.out, ← M2.out, ← M3.out, hm3, ← M4.out, ← M5.out, hmm]
                have hd : zs.drop j = x :: zs.drop (j + 1) := by
                  have hz : zs = ys.take 6 := by rw [← HZ.out, ← HYS.out]; rfl
                  have hlt : j < zs.length := by rw [HZL.out]; omega
                  rw [List.drop_eq_getElem_cons hlt]
                  congr 1
                  rw [← HX.out]
                  subst hz
                  rw [List.getElem_take]
                have h := HGO.out
                rw [hd, madeGo, e, HE.out.2.1] at h
                exact h
        -- ROUND END
end Go.Proofs.Ytajcihcbgmpdjaa
