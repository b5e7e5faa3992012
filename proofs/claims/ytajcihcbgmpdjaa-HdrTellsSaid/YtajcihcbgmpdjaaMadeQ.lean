/- What Parse tells of the bytes that Made makes, whole, cut and with more behind. -/
import Derived.Test.YtajcihcbgmpdjaaMadeP
namespace Go.Proofs.Ytajcihcbgmpdjaa
open Go.RowKit

theorem sectAt_congr (l m : List UInt8) (i : Nat) (hl : 328 + 40 * i + 40 ≤ l.length) (hm : 328 + 40 * i + 40 ≤ m.length) (h : ∀ k, 328 + 40 * i ≤ k → k < 328 + 40 * i + 40 → l[k]? = m[k]?) :
    sectAt l 64 (264 + 40 * (i : Int)) = sectAt m 64 (264 + 40 * (i : Int)) := by
  have hn : (64 + (264 + 40 * (i : Int))).toNat = 328 + 40 * i := by omega
  have e0 : (l.drop (64 + (264 + 40 * (i : Int))).toNat).take 8 = (m.drop (64 + (264 + 40 * (i : Int))).toNat).take 8 := by
    rw [hn]
    exact seg_congr (fun k hk => h _ (by omega) (by omega))
  have e : ∀ o : Nat, o + 4 ≤ 40 → numAt l (64 + (264 + 40 * (i : Int) + (o : Int))) 4 = numAt m (64 + (264 + 40 * (i : Int) + (o : Int))) 4 := fun o ho =>
    numAt_congr l m _ _ (328 + 40 * i + o) 4 (by omega) rfl (by omega) (by omega) (fun k h1 h2 => h k (by omega) (by omega))
  have e1 : numAt l (64 + (264 + 40 * (i : Int) + 8)) 4 = numAt m (64 + (264 + 40 * (i : Int) + 8)) 4 := e 8 (by omega)
  have e2 : numAt l (64 + (264 + 40 * (i : Int) + 12)) 4 = numAt m (64 + (264 + 40 * (i : Int) + 12)) 4 := e 12 (by omega)
  have e3 : numAt l (64 + (264 + 40 * (i : Int) + 16)) 4 = numAt m (64 + (264 + 40 * (i : Int) + 16)) 4 := e 16 (by omega)
  have e4 : numAt l (64 + (264 + 40 * (i : Int) + 20)) 4 = numAt m (64 + (264 + 40 * (i : Int) + 20)) 4 := e 20 (by omega)
  have e5 : numAt l (64 + (264 + 40 * (i : Int) + 36)) 4 = numAt m (64 + (264 + 40 * (i : Int) + 36)) 4 := e 36 (by omega)
  rw [sectAt, sectAt, e0, e1, e2, e3, e4, e5]

set_option maxHeartbeats 1000000 in
theorem go_facts : ∀ (zs : List (Int × Int × Int)) (i rva : Nat) (b : List UInt8), 1024 ≤ b.length → b.length ≤ 1024 + 8191 * i → i + zs.length ≤ 6 → rva ≤ 4096 + 20480 * i →
    (∀ k, 328 + 40 * i ≤ k → k < 568 → b[k]? = some 0) →
    (madeGo zs i rva b).1.length = b.length + secsLen zs ∧ (madeGo zs i rva b).2 = secsEnd zs rva ∧
    (∀ k, k < b.length → (k < 328 + 40 * i ∨ 568 ≤ k) → (madeGo zs i rva b).1[k]? = b[k]?) ∧
    (∀ j, j < zs.length → (secsD zs i rva b.length)[j]? = some (sectAt (madeGo zs i rva b).1 64 (264 + 40 * ((i + j : Nat) : Int))))
  | [], i, rva, b, _, _, _, _, _ => ⟨by simp [madeGo, secsLen], rfl, fun k _ _ => rfl, fun j hj => by simp at hj⟩
  | x :: zs, i, rva, b, hl, hb, hi, hr, hz => by
    obtain ⟨s1, s2, s3, s4, s5, s6, s7, s8, s9, s10⟩ := sec_bd x
    simp only [List.length_cons] at hi
    have hlen := step_length b rva i x
    have hfar := step_far b rva i x
    have hsec := step_sect b rva i x hl (by omega) (by omega) (by omega) (hz _ (by omega) (by omega))
    obtain ⟨b', hb'⟩ : ∃ b', madeStep b rva i x = b' := ⟨_, rfl⟩
    rw [hb'] at hlen hfar hsec
    obtain ⟨i1, i2, i3, i4⟩ := go_facts zs (i + 1) (rva + secFull x) b' (by omega) (by omega) (by omega) (by omega)
      (fun k h1 h2 => by rw [hfar k (by omega) (by omega)]; exact hz k (by omega) h2)
    have hgo : madeGo (x :: zs) i rva b = madeGo zs (i + 1) (rva + secFull x) b' := by rw [← hb']; rfl
    rw [hgo]
    obtain ⟨g, hg⟩ : ∃ g, madeGo zs (i + 1) (rva + secFull x) b' = g := ⟨_, rfl⟩
    rw [hg] at i1 i2 i3 i4 ⊢
    refine ⟨by rw [i1, hlen, secsLen]; omega, i2, fun k h1 h2 => ?_, fun j hj => ?_⟩
    · rw [i3 k (by omega) (by omega), hfar k h1 (by omega)]
    · rcases j with _ | j
      · rw [secsD, List.getElem?_cons_zero, ← hsec, Nat.add_zero]
        congr 1
        exact sectAt_congr _ _ i (by omega) (by omega) (fun k h1 h2 => (i3 k (by omega) (by omega)).symm)
      · rw [secsD, List.getElem?_cons_succ, ← hlen, i4 j (by simpa using hj)]
        congr 4
        omega

theorem secV_le (x : Int × Int × Int) : secV x ≤ secFull x := by
  obtain ⟨s1, s2, s3, s4, s5, s6, -⟩ := sec_bd x
  obtain ⟨r1, -, -⟩ := round_bounds (secV x) (by omega) (by omega)
  omega
theorem mod_add0 (a b : Nat) (h : a % 4096 = 0) (hb : b % 4096 = 0) : (a + b) % 4096 = 0 := by omega
theorem secsLen_le : ∀ zs : List (Int × Int × Int), secsLen zs ≤ 8191 * zs.length
  | [] => by simp [secsLen]
  | x :: zs => by
    have := secsLen_le zs
    obtain ⟨-, -, -, -, -, -, s7, -⟩ := sec_bd x
    simp only [secsLen, List.length_cons]
    omega
set_option maxRecDepth 100000 in
theorem secsEnd_ge : ∀ (zs : List (Int × Int × Int)) (rva : Nat), rva ≤ secsEnd zs rva ∧ secsEnd zs rva ≤ rva + 20480 * zs.length ∧ (rva % 4096 = 0 → secsEnd zs rva % 4096 = 0) ∧ rva + 4096 * zs.length ≤ secsEnd zs rva
  | [], rva => by
    simp only [secsEnd, List.length_nil]
    exact ⟨Nat.le_refl _, by omega, fun h => h, by omega⟩
  | x :: zs, rva => by
    obtain ⟨-, -, s3, s4, s5, -⟩ := sec_bd x
    obtain ⟨a, b, c, d⟩ := secsEnd_ge zs (rva + secFull x)
    simp only [secsEnd, List.length_cons]
    have hc : rva % 4096 = 0 → secsEnd zs (rva + secFull x) % 4096 = 0 := fun h => c (mod_add0 rva (secFull x) h s5)
    clear c s5
    obtain ⟨e, he⟩ : ∃ e, secsEnd zs (rva + secFull x) = e := ⟨_, rfl⟩
    obtain ⟨f, hf⟩ : ∃ f, secFull x = f := ⟨_, rfl⟩
    rw [he] at a b d hc ⊢
    rw [hf] at a b d s3 s4
    clear he hf
    exact ⟨by omega, by omega, hc, by omega⟩

set_option maxRecDepth 100000 in
/-- The sections are what they should be: told, if their bytes are all there; none, if not. -/
theorem sects_made (l : List UInt8) (size : Nat) : ∀ (zs : List (Int × Int × Int)) (i rva pt : Nat), secsEnd zs rva = size → size ≤ 4294967295 →
    (∀ j, j < zs.length → (secsD zs i rva pt)[j]? = some (sectAt l 64 (264 + 40 * ((i + j : Nat) : Int)))) →
    sectsGo l 64 size zs.length i rva = if pt + secsLen zs ≤ l.length ∨ secsLen zs = 0 then some (secsD zs i rva pt) else none
  | [], i, rva, pt, he, _, _ => by
    simp only [secsEnd] at he
    simp [sectsGo, secsLen, secsD, he]
  | x :: zs, i, rva, pt, he, hsz, h => by
    obtain ⟨s1, s2, s3, s4, s5, s6, s7, s8, s9, s10⟩ := sec_bd x
    have hvf := secV_le x
    have h0 := h 0 (by simp)
    rw [secsD, List.getElem?_cons_zero, Nat.add_zero] at h0
    have h0 := (Option.some.inj h0).symm
    have hge := (secsEnd_ge zs (rva + secFull x)).1
    have he' : secsEnd zs (rva + secFull x) = size := he
    have ih := sects_made l size zs (i + 1) (rva + secFull x) (pt + secRaw x) he hsz (fun j hj => by
      have := h (j + 1) (by simpa using hj)
      rw [secsD, List.getElem?_cons_succ] at this
      rw [this]
      congr 4
      omega)
    rw [List.length_cons, sectsGo, h0]
    simp only [s6]
    by_cases hfit : pt + secRaw x ≤ l.length ∨ secRaw x = 0
    · have hok : ¬ sectBad l size rva ⟨[115, UInt8.ofNat (48 + i)], secV x, rva, secRaw x, pt, secCh x⟩ := by
        rintro (h | h | h | h | h | ⟨h1, h2⟩)
        · exact h rfl
        · have h' : secV x = 0 := h
          omega
        · have h' : (size : Int) - (rva : Int) < (secV x : Int) := h
          omega
        · exact h s8
        · simp only [s6] at h; omega
        · have h2' : inB l.length (pt : Int) (secRaw x : Int) = false := h2
          have h1' : 0 < secRaw x := h1
          simp only [inB, decide_eq_false_iff_not] at h2'
          omega
      rw [if_neg hok]
      have e : (rva : Int) + secFull x = ((rva + secFull x : Nat) : Int) := by omega
      rw [e, ih, secsD, secsLen]
      by_cases hf : pt + secRaw x + secsLen zs ≤ l.length ∨ secsLen zs = 0
      · rw [if_pos hf, if_pos (by omega)]
        rfl
      · rw [if_neg hf, if_neg (by omega)]
        rfl
    · have hbad : sectBad l size rva ⟨[115, UInt8.ofNat (48 + i)], secV x, rva, secRaw x, pt, secCh x⟩ := by
        refine .inr (.inr (.inr (.inr (.inr ⟨by simp; omega, ?_⟩))))
        simp only [inB, decide_eq_false_iff_not]
        omega
      rw [if_pos hbad, secsLen, if_neg (by omega)]
end Go.Proofs.Ytajcihcbgmpdjaa
