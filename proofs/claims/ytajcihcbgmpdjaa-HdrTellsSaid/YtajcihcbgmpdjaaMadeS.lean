/- Parse, of a made image. -/
import Derived.Test.YtajcihcbgmpdjaaMadeR
namespace Go.Proofs.Ytajcihcbgmpdjaa
open Go.RowKit

/-- What a made image's head tells. -/
structure HeadMade (h : HeadD) (zs : List (Int × Int × Int)) : Prop where
  base : h.base = 65536
  stamp : h.stamp = 77
  chars : h.chars = 8226
  entry : h.entry = 0
  size : h.size = secsEnd zs 4096
  headers : h.headers = 1024
  sects : h.sects = secsD zs 0 4096 1024

theorem two_of (l : List UInt8) (a : Nat) (h : a + 2 ≤ l.length) (x y : UInt8) (e : lnum (seg l a 2) = x.toNat + 256 * y.toNat) : seg l a 2 = [x, y] := by
  have hl := seg_length l a 2 h
  match hs : seg l a 2, hl with
  | [p, q], _ =>
    rw [hs] at e
    simp only [lnum] at e
    have a1 := p.toNat_lt
    have a2 := x.toNat_lt
    have h1 : p.toNat = x.toNat := by omega
    have h2 : q.toNat = y.toNat := by omega
    rw [UInt8.toNat_inj.1 h1, UInt8.toNat_inj.1 h2]

theorem four_of (l : List UInt8) (a : Nat) (h : a + 4 ≤ l.length) (x y z u : UInt8) (e : lnum (seg l a 4) = x.toNat + 256 * (y.toNat + 256 * (z.toNat + 256 * u.toNat))) : seg l a 4 = [x, y, z, u] := by
  have hl := seg_length l a 4 h
  match hs : seg l a 4, hl with
  | [p, q, r, s], _ =>
    rw [hs] at e
    simp only [lnum] at e
    have a1 := p.toNat_lt
    have a2 := x.toNat_lt
    have a3 := q.toNat_lt
    have a4 := y.toNat_lt
    have a5 := r.toNat_lt
    have a6 := z.toNat_lt
    have h1 : p.toNat = x.toNat := by omega
    have h2 : q.toNat = y.toNat := by omega
    have h3 : r.toNat = z.toNat := by omega
    have h4 : s.toNat = u.toNat := by omega
    rw [UInt8.toNat_inj.1 h1, UInt8.toNat_inj.1 h2, UInt8.toNat_inj.1 h3, UInt8.toNat_inj.1 h4]

theorem parse_madeL {l : List UInt8} {zs : List (Int × Int × Int)} (h : MadeL l zs) :
    (1024 + secsLen zs ≤ l.length ∨ secsLen zs = 0 → ∃ x, parseF l = .ok x ∧ HeadMade x zs) ∧ (¬ (1024 + secsLen zs ≤ l.length ∨ secsLen zs = 0) → parseF l = .error 7) := by
  have hn := h.nums
  simp only [headNums, List.cons.injEq, and_true] at hn
  obtain ⟨n60, n68, n84, n88, n196, n112, n72, n86, n104, n148, n120, n124, n70, s0, s64⟩ := hn
  have hl := h.len
  have h1 := h.one
  have h6 := h.six
  have hsz := h.size
  obtain ⟨e1, e2, e3, e4⟩ := secsEnd_ge zs 4096
  have e3 := e3 rfl
  have hstart : startE l = 0 := by
    have t0 : l.take 2 = [77, 90] := two_of l 0 (by omega) 77 90 s0
    have t1 : (l.drop 64).take 4 = [80, 69, 0, 0] := four_of l 64 (by omega) 80 69 0 0 s64
    have i0 : inB l.length ((64 : Nat) : Int) 264 = true := by simp only [inB, decide_eq_true_eq]; omega
    unfold startE
    rw [if_neg (by omega), if_neg (by rw [t0]; simp), n60, if_neg (by rw [i0]; simp), if_neg (by rw [t1]; simp)]
  have f4 : numAt l (((64 : Nat) : Int) + 4) 2 = 34404 := n68
  have f20 : numAt l (((64 : Nat) : Int) + 20) 2 = 240 := n84
  have f24 : numAt l (((64 : Nat) : Int) + 24) 2 = 523 := n88
  have f132 : numAt l (((64 : Nat) : Int) + 132) 4 = 16 := n196
  have f48 : numAt l (((64 : Nat) : Int) + 48) 8 = 65536 := n112
  have f8 : numAt l (((64 : Nat) : Int) + 8) 4 = 77 := n72
  have f22 : numAt l (((64 : Nat) : Int) + 22) 2 = 8226 := n86
  have f40 : numAt l (((64 : Nat) : Int) + 40) 4 = 0 := n104
  have f80 : numAt l (((64 : Nat) : Int) + 80) 4 = secsEnd zs 4096 := hsz
  have f84 : numAt l (((64 : Nat) : Int) + 84) 4 = 1024 := n148
  have f56 : numAt l (((64 : Nat) : Int) + 56) 4 = 4096 := n120
  have f60 : numAt l (((64 : Nat) : Int) + 60) 4 = 512 := n124
  have f6 : numAt l (((64 : Nat) : Int) + 6) 2 = zs.length := n70
  have hforms : formsE l ((64 : Nat) : Int) = 0 := by
    unfold formsE
    rw [f4, f20, f24, f132]
    rfl
  have hsects : sectsF l ((64 : Nat) : Int) (secsEnd zs 4096 : Nat) ((1024 : Nat) : Int) = if 1024 + secsLen zs ≤ l.length ∨ secsLen zs = 0 then some (secsD zs 0 4096 1024) else none := by
    unfold sectsF
    rw [f6, if_neg (by omega)]
    have hr : roundF ((1024 : Nat) : Int) 4096 = ((4096 : Nat) : Int) := by decide
    rw [hr]
    exact sects_made l (secsEnd zs 4096) zs 0 4096 1024 rfl (by omega) h.sect
  have hsizes : sizesE l ((64 : Nat) : Int) ((65536 : Nat) : Int) ((secsEnd zs 4096 : Nat) : Int) = 0 := by
    unfold sizesE
    rw [f56, f60, if_neg (by omega)]
  have hp : parseF l = parse3 l ((64 : Nat) : Int) := by
    unfold parseF
    rw [if_neg (by rw [hstart]; simp), n60, if_neg (by rw [hforms]; simp)]
    unfold parse2
    rw [if_neg ?_]
    simp only [headAt]
    rw [f48, f80, hsizes]
    simp
  rw [hp]
  have g80 : (headAt l ((64 : Nat) : Int) []).size = secsEnd zs 4096 := f80
  have g84 : (headAt l ((64 : Nat) : Int) []).headers = 1024 := f84
  have g40 : (headAt l ((64 : Nat) : Int) []).entry = 0 := f40
  constructor
  · intro hfit
    rw [if_pos hfit] at hsects
    rw [parse3_some (xs := secsD zs 0 4096 1024) (by rw [g80, g84]; exact hsects), g80, g40, if_neg (by omega)]
    exact ⟨_, rfl, f48, f8, f22, f40, f80, f84, rfl⟩
  · intro hfit
    rw [if_neg hfit] at hsects
    exact parse3_none (by rw [g80, g84]; exact hsects)

/-- A made image, parsed. -/
theorem parse_madeF (xs : List (Int × Int × Int)) : ∃ x, parseF (madeF xs []) = .ok x ∧ HeadMade x (sectsOf xs) := by
  obtain ⟨h, hl⟩ := madeF_L xs
  exact (parse_madeL h).1 (.inl (by omega))
end Go.Proofs.Ytajcihcbgmpdjaa
