/- What all texts of this seat lean on: rows of cells that are read, bytes as a list, numbers in bytes. -/
import Derived.Test.YtnbhmcbhpkjgcaaProg
import Derived.WalkKit
import Derived.WalkSpells
import Derived.WalkLawsBesides
import Derived.KernelRfl
import Derived.Deep.LoopGhost
import Derived.Deep.QuietTactic
import Derived.BigQuiet
import Derived.Deep.RegionWith
import Derived.Deep.RegionLaw
import Derived.Deep.RegionHeld3
import Derived.Deep.CutBlock
import Derived.Deep.DeepCutAuto
import Derived.Laws.OwnMore
import Derived.Laws.BitsLemmas
import Derived.Laws.BytesArg
import Derived.Laws.Concat
import Derived.Lib.ConvBytes
import Derived.Deep.OwnRows
namespace Go.Proofs.Ytnbhmcbhpkjgcaa
open Go.RowKit

theorem hid {p : Prop} (h : p) : Hid p := h

theorem below_undrew {B : Nat} {w w' : World} (h : Below B w.drew w') : Below B w w' := ⟨h.os, h.tape, h.output, h.size, h.block⟩
theorem below_undrewN {B n : Nat} {w w' : World} (h : Below B (w.drewN n) w') : Below B w w' := ⟨h.os, h.tape, h.output, h.size, h.block⟩

theorem below_drewN' {B n : Nat} {w w' : World} (h : Below B w w') : Below B w (w'.drewN n) := ⟨h.os, h.tape, h.output, h.size, h.block⟩

/-- What is below is as it was: two rules for a walk. -/
theorem old_cells {W w1 : World} (hb : Below W.heap.size W w1) :
    (∀ b o, b < W.heap.size → w1.cell? ⟨b, o, none⟩ = W.cell? ⟨b, o, none⟩) ∧ (∀ b o, b < W.heap.size → w1.frozen? ⟨b, o, none⟩ = W.frozen? ⟨b, o, none⟩) :=
  ⟨fun b o h => hb.cell (p := ⟨b, o, none⟩) h, fun b o h => hb.frozen (p := ⟨b, o, none⟩) h⟩

/-- A row of cells at an address, if there is one. -/
def Row (w : World) (A : Option Addr) (cs : List Value) : Prop :=
  cs = [] ∨ ∃ ad, A = some ad ∧ ∀ j (h : j < cs.length), w.cell? (ad.add j) = some cs[j]

theorem Row.nil (w : World) (A : Option Addr) : Row w A [] := .inl rfl

theorem Row.cell {w : World} {A : Option Addr} {cs : List Value} (h : Row w A cs) {j : Nat} (hj : j < cs.length) :
    ∃ ad, A = some ad ∧ w.cell? (ad.add j) = some cs[j] := by
  rcases h with rfl | ⟨ad, rfl, hc⟩
  · simp at hj
  · exact ⟨ad, rfl, hc j hj⟩

theorem Row.below {w w' : World} {A : Option Addr} {cs : List Value} (h : Row w A cs) (hb : Below w.heap.size w w') : Row w' A cs := by
  rcases h with rfl | ⟨ad, rfl, hc⟩
  · exact .inl rfl
  · refine .inr ⟨ad, rfl, fun j hj => ?_⟩
    have h1 := hc j hj
    have hlt : (ad.add j).block < w.heap.size := by
      rcases Nat.lt_or_ge (ad.add j).block w.heap.size with h' | h'
      · exact h'
      · simp [World.cell?, Array.getElem?_eq_none h'] at h1
    rw [hb.cell hlt]; exact h1

/-- A slice of bytes that reads as a list. -/
def bcells (l : List UInt8) : List Value := l.map fun b => .int .u8 (b.toNat : Int)
theorem bcells_length (l : List UInt8) : (bcells l).length = l.length := by simp [bcells]

theorem Row.byte {w : World} {A : Option Addr} {l : List UInt8} (h : Row w A (bcells l)) {k : Nat} (hk : k < l.length) :
    ∃ ad, A = some ad ∧ w.cell? (ad.add k) = some (.int .u8 (l[k].toNat : Int)) := by
  obtain ⟨ad, e, hc⟩ := h.cell (j := k) (by rw [bcells_length]; exact hk)
  exact ⟨ad, e, by rw [hc]; simp [bcells]⟩

/-- Bytes' number, the lowest first. -/
def lnum : List UInt8 → Nat
  | [] => 0
  | b :: l => b.toNat + 256 * lnum l

theorem lnum_lt : ∀ l : List UInt8, lnum l < 256 ^ l.length
  | [] => by simp [lnum]
  | b :: l => by
    have h := lnum_lt l
    have hb : b.toNat < 256 := b.toNat_lt
    simp only [lnum, List.length_cons, Nat.pow_succ]
    omega

theorem lnum_append : ∀ a b : List UInt8, lnum (a ++ b) = lnum a + 256 ^ a.length * lnum b
  | [], b => by simp [lnum]
  | x :: a, b => by
    simp only [List.cons_append, lnum, lnum_append a b, List.length_cons, Nat.pow_succ]
    rw [Nat.mul_add, Nat.add_assoc, ← Nat.mul_assoc, Nat.mul_comm 256 (256 ^ a.length)]

theorem addr_add_add (a : Addr) (i j : Nat) : (a.add i).add j = a.add (i + j) := by
  unfold Addr.add
  by_cases hi : i = 0 <;> by_cases hj : j = 0 <;> simp [hi, hj, Nat.add_assoc]

theorem Row.drop {w : World} {A : Option Addr} {cs : List Value} (h : Row w A cs) (k : Nat) : Row w (A.map (·.add k)) (cs.drop k) := by
  rcases h with rfl | ⟨ad, rfl, hc⟩
  · exact .inl (by simp)
  · refine .inr ⟨ad.add k, rfl, fun j hj => ?_⟩
    rw [addr_add_add, hc (k + j) (by simp at hj; omega)]
    simp

theorem Row.take {w : World} {A : Option Addr} {cs : List Value} (h : Row w A cs) (k : Nat) : Row w A (cs.take k) := by
  rcases h with rfl | ⟨ad, rfl, hc⟩
  · exact .inl (by simp)
  · refine .inr ⟨ad, rfl, fun j hj => ?_⟩
    rw [hc j (by simp at hj; omega)]
    simp

/-- A cut of a slice, as one equation: where it begins is told by its row alone. -/
theorem slice_lh {P : Program} (t e : TypeId) (sz : Nat) (ht : P.underlying t = some (.slice e)) (hi : (P.info? e).map (·.size) = some sz) (A : Option Addr) (len c : Nat) (kl kh : IntKind) (lo hi' : Int)
    (a m : Nat) (ha : lo = a) (hm : hi' = (a : Int) + m) (hle : a + m ≤ len) (hc : len ≤ c) :
    ∃ A' : Option Addr, (∀ W : World, (Instr.slice t (.slice A len c) (some (.int kl lo)) (some (.int kh hi')) none).run P W = .ok (.slice A' m (c - a)) W) ∧
      ∀ (w : World) (cs : List Value), cs.length = len * sz → Row w A cs → Row w A' ((cs.drop (a * sz)).take (m * sz)) := by
  subst ha hm
  have hel : P.elem t = e := by simp [Program.elem, ht]
  have hu : P.underlying t = some (.slice (P.elem t)) := by rw [hel]; exact ht
  obtain ⟨i, hi1, hi2⟩ := Option.map_eq_some_iff.1 hi
  refine ⟨if c = a then A else A.map (·.add (a * sz)), fun W => ?_, fun w cs hl h => ?_⟩
  · rw [run_slice_lh W t A len c hu kl kh a (a + m) (by omega) (by omega) (by omega), hel]
    have e1 : ((a : Int) + m).toNat = a + m := by omega
    simp [sizeOf, typeInfo, hi1, hi2, sliced, Result.andThen, e1]
  · by_cases hca : c = a
    · have hm0 : m = 0 := by omega
      subst hm0
      exact .inl (by simp)
    · rw [if_neg hca]
      exact (h.drop _).take _

theorem slice_l {P : Program} (t e : TypeId) (sz : Nat) (ht : P.underlying t = some (.slice e)) (hi : (P.info? e).map (·.size) = some sz) (A : Option Addr) (len c : Nat) (kl : IntKind) (lo : Int)
    (a : Nat) (ha : lo = a) (hle : a ≤ len) (hc : len ≤ c) :
    ∃ A' : Option Addr, (∀ W : World, (Instr.slice t (.slice A len c) (some (.int kl lo)) none none).run P W = .ok (.slice A' (len - a) (c - a)) W) ∧
      ∀ (w : World) (cs : List Value), cs.length = len * sz → Row w A cs → Row w A' (cs.drop (a * sz)) := by
  subst ha
  have hel : P.elem t = e := by simp [Program.elem, ht]
  have hu : P.underlying t = some (.slice (P.elem t)) := by rw [hel]; exact ht
  obtain ⟨i, hi1, hi2⟩ := Option.map_eq_some_iff.1 hi
  refine ⟨if c = a then A else A.map (·.add (a * sz)), fun W => ?_, fun w cs hl h => ?_⟩
  · rw [run_slice_l W t A len c hu kl a (by omega) (by omega), hel]
    simp [sizeOf, typeInfo, hi1, hi2, sliced, Result.andThen]
  · by_cases hca : c = a
    · have hm0 : len = a := by omega
      subst hm0
      exact .inl (by rw [← hl]; simp)
    · rw [if_neg hca]
      exact h.drop _

theorem slice_h {P : Program} (t e : TypeId) (sz : Nat) (ht : P.underlying t = some (.slice e)) (hi : (P.info? e).map (·.size) = some sz) (A : Option Addr) (len c : Nat) (kh : IntKind) (hi' : Int)
    (m : Nat) (hm : hi' = m) (hle : m ≤ len) (hc : len ≤ c) :
    (∀ W : World, (Instr.slice t (.slice A len c) none (some (.int kh hi')) none).run P W = .ok (.slice A m c) W) := by
  subst hm
  have hel : P.elem t = e := by simp [Program.elem, ht]
  have hu : P.underlying t = some (.slice (P.elem t)) := by rw [hel]; exact ht
  obtain ⟨i, hi1, hi2⟩ := Option.map_eq_some_iff.1 hi
  intro W
  rw [run_slice_h W t A len c hu kh m (by omega) (by omega), hel]
  have e0 : A.map (fun x => x.add 0) = A := by cases A <;> simp [Addr.add]
  simp [sizeOf, typeInfo, hi1, hi2, sliced, Result.andThen, e0]

theorem wrap_u64 (n : Int) : IntKind.u64.wrap n = n % 18446744073709551616 := by simp [IntKind.wrap, IntKind.bits, IntKind.signed]
theorem wrap_u64_id {n : Int} (h0 : 0 ≤ n) (h1 : n < 18446744073709551616) : IntKind.u64.wrap n = n := by rw [wrap_u64]; omega

/-- A low part and a high one, joined. -/
theorem or_join (i a b : Nat) (hb : b < 2 ^ i) (h : 2 ^ i * a + b < 18446744073709551616) :
    bits .or .u64 (b : Int) ((2 ^ i * a : Nat) : Int) = ((2 ^ i * a + b : Nat) : Int) := by
  have hk : ∀ n : Int, 0 ≤ n → n < 2 ^ 64 → IntKind.u64.wrap n = n := fun n h0 h1 => wrap_u64_id h0 (by omega)
  rw [(bits_nat .u64 64 (by decide) hk b (2 ^ i * a) (by omega) (by omega)).2, Nat.or_comm, Nat.two_pow_add_eq_or_of_lt hb]

theorem pow256 (j : Nat) : (256 : Nat) ^ j = 2 ^ (8 * j) := by
  rw [show (256 : Nat) = 2 ^ 8 from rfl, ← Nat.pow_mul]

theorem take_snoc {α : Type} (l : List α) (k : Nat) (h : k < l.length) : l.take (k + 1) = l.take k ++ [l[k]] := by
  rw [List.take_succ_eq_append_getElem h]

theorem lnum_step (s : List UInt8) (j : Nat) (hj : j < s.length) (h8 : j < 8) :
    bits .or .u64 (lnum (s.take j) : Int) (IntKind.u64.wrap (IntKind.u64.wrap (s[j].toNat : Int) * 2 ^ (8 * j))) = (lnum (s.take (j + 1)) : Int) := by
  have hc : s[j].toNat < 256 := s[j].toNat_lt
  have hv := lnum_lt (s.take j)
  have hlen : (s.take j).length = j := by simp; omega
  rw [hlen, pow256] at hv
  have hp : 2 ^ (8 * j) ≤ 2 ^ 56 := Nat.pow_le_pow_right (by decide) (by omega)
  have hmul : 2 ^ (8 * j) * s[j].toNat ≤ 2 ^ (8 * j) * 255 := Nat.mul_le_mul_left _ (by omega)
  rw [wrap_u64_id (n := (s[j].toNat : Int)) (by omega) (by omega)]
  have e1 : ((s[j].toNat : Int) * 2 ^ (8 * j)) = ((2 ^ (8 * j) * s[j].toNat : Nat) : Int) := by
    rw [Int.natCast_mul, Int.mul_comm]; simp
  rw [e1, wrap_u64_id (by omega) (by omega), or_join (8 * j) _ _ hv (by omega), take_snoc s j hj, lnum_append, hlen, pow256]
  simp only [lnum, Nat.mul_zero, Nat.add_zero]
  rw [Nat.add_comm]

/-- A string of bytes. -/
def S (l : List UInt8) : ByteArray := ⟨l.toArray⟩
theorem S_list (l : List UInt8) : (S l).data.toList = l := rfl
theorem S_size (l : List UInt8) : (S l).size = l.length := by simp [S, ByteArray.size]
theorem S_append (a b : List UInt8) : S a ++ S b = S (a ++ b) := by
  apply ByteArray.ext
  rw [ByteArray.data_append]
  simp [S]
theorem S_of (s : ByteArray) : S s.data.toList = s := by cases s; simp [S]

/-- 'string(b)'. -/
theorem run_str {P : Program} (w : World) (src dst e : TypeId) (hs : P.underlying src = some (.slice e)) (he : P.underlying e = some (.int .u8)) (hd : P.underlying dst = some .string)
    (A : Option Addr) (len c : Nat) (l : List UInt8) (hl : l.length = len) (hr : Row w A (bcells l)) :
    (convert src dst (.slice A len c)).run P w = .ok (.string (S l)) w := by
  cases A with
  | none =>
    rcases hr with h | ⟨ad, h, _⟩
    · have : l = [] := by simpa [bcells] using h
      subst this
      rw [run_convert_bytes_nil w src e hs he len c dst hd]
      rfl
    · simp at h
  | some ad =>
    have hld : (loadCells ad len).run P w = .ok ((l.map fun b => (b.toNat : Int)).map (Value.int .u8)).toArray w := by
      have := run_loadCells_list (P := P) w ad (bcells l) (fun j v hj => by
        obtain ⟨hlt, he⟩ := List.getElem?_eq_some_iff.1 hj
        obtain ⟨ad', e, hc⟩ := hr.cell hlt
        obtain rfl := Option.some.inj e
        rw [hc, he])
      rw [bcells_length, hl] at this
      rw [this]
      congr 1
      simp [bcells]
    rw [run_convert_bytes_string w src dst e _ len c hs he hd, run_bytesToString w _ len c _ hld, foldl_push_bytes]
    have e1 : ((l.map fun b => (b.toNat : Int)).map fun n => UInt8.ofNat n.toNat) = l := by
      rw [List.map_map]
      conv => rhs; rw [← List.map_id l]
      apply List.map_congr_left
      intro b _
      simp
    rw [e1]
    simp [S, ByteArray.empty, ByteArray.emptyWithCapacity]
    rfl

theorem Row.one (w : World) (x : Value) (t : TypeId) : Row (w.alloc (.cells #[x] t)) (some ⟨w.heap.size, 0, none⟩) [x] :=
  .inr ⟨_, rfl, fun j hj => by
    obtain rfl : j = 0 := by simpa using hj
    simp [Addr.add]⟩

theorem byte_of (x : Int) (h0 : 0 ≤ x) (h1 : x < 256) : ((UInt8.ofNat x.toNat).toNat : Int) = x := by
  simp; omega

/-- A slice of bytes that reads as a list. -/
structure Bs (w : World) (A : Option Addr) (c : Nat) (l : List UInt8) : Prop where
  row : Row w A (bcells l)
  le : l.length ≤ c
  mx : l.length ≤ 140737488355328

theorem Bs.below {w w' : World} {A : Option Addr} {c : Nat} {l : List UInt8} (h : Bs w A c l) (hb : Below w.heap.size w w') : Bs w' A c l := ⟨h.row.below hb, h.le, h.mx⟩

/-- Whether n bytes from a place on lie in a row of some length. -/
def inB (long at' n : Int) : Bool := decide (0 ≤ at' ∧ 0 ≤ n ∧ at' ≤ long ∧ n ≤ long - at')

/-- Some bytes' number; 0, if they are not all there. -/
def numAt (l : List UInt8) (at' n : Int) : Nat := if inB l.length at' n then lnum ((l.drop at'.toNat).take n.toNat) else 0

theorem numAt_lt (l : List UInt8) (at' : Int) (n : Nat) : numAt l at' n < 256 ^ n := by
  unfold numAt
  split
  · refine Nat.lt_of_lt_of_le (lnum_lt _) (Nat.pow_le_pow_right (by decide) ?_)
    simp
    omega
  · exact Nat.pow_pos (by decide)

/-- What a row of the call's own is to who reads it. -/
theorem own_row {w : World} {base : Nat} {e : TypeId} {sz : Nat} {v : Value} {n : Nat} {xs : List Value} (h : w.ownsRow base e sz v n xs) :
    ∃ A c, v = .slice A n c ∧ n ≤ c ∧ Row w A xs := by
  obtain ⟨hl, ⟨rfl, rfl⟩ | ⟨g, cap, cur, rfl, hg, hh, hn, hm, hc, ht⟩⟩ := h
  · refine ⟨none, 0, rfl, Nat.le_refl _, .inl ?_⟩
    simpa using hl
  · refine ⟨some ⟨g, 0, none⟩, cap, rfl, hn, .inr ⟨_, rfl, fun j hj => ?_⟩⟩
    have hown : w.ownsRow base e sz (.slice (some ⟨g, 0, none⟩) n cap) n xs := ⟨hl, .inr ⟨g, cap, cur, rfl, hg, hh, hn, hm, hc, ht⟩⟩
    exact hown.cells rfl j _ (List.getElem?_eq_getElem hj)

/-- 'out = append(out, x)': x lies in a new block of its own. -/
theorem wp_app {P : Program} {ops : Array Oper} {rest : List Oper} {o : Oper} {a : Act} {Q : Exit → Act → World → Prop} (w : World) (hgd : o.guard = none) (s x : Operand) (t : TypeId)
    (ho : o.op = .call { callee := .builtin .append, args := #[s, x], argTypes := #[t, t] })
    (base : Nat) (e : TypeId) (z : Value) (sz bytes : Nat) (ht : P.underlying t = some (.slice e)) (hi : (P.info? e).map (fun i => (i.zero, i.size, i.bytes)) = some (some z, sz, bytes))
    (hzs : z.cells.size = sz) (hsz : 0 < sz) (v : Value) (n : Nat) (xs : List Value) (hs : a.eval s = v) (hown : w.ownsRow base e sz v n xs)
    (cs : List Value) (hcs : cs.length = sz) (h1 : ∀ u ∈ cs, u.oneCell' = true) (hx : a.eval x = .slice (some ⟨w.heap.size, 0, none⟩) 1 1)
    (hn : (n + 1) * bytes ≤ 140737488355328) (hn1 : n + 1 ≤ 140737488355328) (hbase : base ≤ w.heap.size)
    (h : ∀ v' w', w'.ownsRow base e sz v' (n + 1) (xs ++ cs) → (∀ w0, Below base w0 w → Below base w0 w') → (w.alloc (.cells cs.toArray e)).grownBy w' v.ownBlock → wpList P ops Q rest (a.put o.dst v') w') :
    wpList P ops Q (o :: rest) a (w.alloc (.cells cs.toArray e)) := by
  obtain ⟨i, hi1, hz, hs1, hby⟩ := info_parts hi
  refine wpList_append_own _ hgd s x t ho base e i z sz bytes ht hi1 hz hs1 hby hzs hsz v n xs hs (hown.alloc _) ⟨w.heap.size, 0, none⟩ 1 1 cs hx (by omega) (fun j u hj => ?_) h1 (by unfold maxLen; omega) hn ?_ ?_
  · have e0 : (⟨w.heap.size, 0, none⟩ : Addr).add j = ⟨w.heap.size, j, none⟩ := by
      unfold Addr.add
      split <;> simp_all
    rw [e0]
    simpa using hj
  · simp; omega
  · intro v' w' h2 h3 _
    refine h v' w' h2 (fun w0 hb => ?_) h3
    refine (hb.alloc hbase _).grown h3 (by simp; omega) (fun k hk => ?_)
    exact (hown.lt k hk).1

theorem own_mono {w : World} {base base' : Nat} {e : TypeId} {sz : Nat} {v : Value} {n : Nat} {xs : List Value} (h : w.ownsRow base e sz v n xs) (hb : base' ≤ base) : w.ownsRow base' e sz v n xs := by
  obtain ⟨hl, h | ⟨g, cap, cur, rfl, hg, r⟩⟩ := h
  · exact ⟨hl, .inl h⟩
  · exact ⟨hl, .inr ⟨g, cap, cur, rfl, Nat.le_trans hb hg, r⟩⟩

theorem own_set {w : World} {base : Nat} {e : TypeId} {sz : Nat} {v : Value} {n : Nat} {xs : List Value} (h : w.ownsRow base e sz v n xs) {p : Addr} (hp : p.block < base) (u : Value) : (w.setCell p u).ownsRow base e sz v n xs :=
  Go.RowKit.ownsRow_setCell_below h hp u

/-- A new block reads as its cells. -/
theorem Row.new (w : World) (C : Array Value) (t : TypeId) : Row (w.alloc (.cells C t)) (some ⟨w.heap.size, 0, none⟩) C.toList :=
  .inr ⟨_, rfl, fun j hj => by
    have e0 : (⟨w.heap.size, 0, none⟩ : Addr).add j = ⟨w.heap.size, j, none⟩ := by
      unfold Addr.add
      split <;> simp_all
    rw [e0]
    simp at hj ⊢⟩

/-- Noughts. -/
def zer (n : Nat) : List UInt8 := List.replicate n 0
theorem zer_length (n : Nat) : (zer n).length = n := by simp [zer]
theorem bcells_replicate (n : Nat) : bcells (List.replicate n 0) = List.replicate n (.int .u8 0) := by simp [bcells]

/-- 'string(make([]byte, n))'. -/
theorem run_str_zeros {P : Program} (src dst e : TypeId) (hs : P.underlying src = some (.slice e)) (he : P.underlying e = some (.int .u8)) (hd : P.underlying dst = some .string) (n : Nat) (W : World) :
    (convert src dst (.slice (some ⟨W.heap.size, 0, none⟩) n n)).run P (W.alloc (.cells (madeCells #[.int .u8 0] n) e)) = .ok (.string (S (zer n))) (W.alloc (.cells (madeCells #[.int .u8 0] n) e)) :=
  run_str _ src dst e hs he hd _ n n (zer n) (by simp [zer]) (by
    have h := Row.new W (madeCells #[.int .u8 0] n) e
    rw [toList_madeCells_one] at h
    rw [zer, bcells_replicate]
    exact h)

/-- '[]byte(s)': what it is to who reads it. -/
theorem bytesWorld_bs (w : World) (e : TypeId) (s : ByteArray) (hs : s.size ≤ 140737488355328) :
    Bs (Lib.bytesWorld w e s) (some ⟨w.heap.size, 0, none⟩) (grownCap w s.size 0 e) s.data.toList := by
  have hl : s.data.toList.length = s.size := by rw [Array.length_toList]; rfl
  refine ⟨.inr ⟨_, rfl, fun j hj => ?_⟩, by rw [hl]; exact grownCap_ge w s.size 0 e, by rw [hl]; exact hs⟩
  have hj' : j < s.size := by rw [bcells_length, hl] at hj; exact hj
  have e0 : (⟨w.heap.size, 0, none⟩ : Addr).add j = ⟨w.heap.size, j, none⟩ := by
    unfold Addr.add
    split <;> simp_all
  rw [e0, Lib.bytesWorld_cell w e s j hj']
  have hj2 : j < s.data.toList.length := by rw [hl]; exact hj'
  simp only [bcells, List.getElem_map, List.getD_eq_getElem?_getD, List.getElem?_eq_getElem hj2, Option.getD_some]

theorem bytesWorld_below (w : World) (e : TypeId) (s : ByteArray) : Below w.heap.size w (Lib.bytesWorld w e s) :=
  ⟨rfl, rfl, rfl, by rw [Lib.bytesWorld_size]; omega, fun k hk => Lib.bytesWorld_at_old w e s k hk⟩

end Go.Proofs.Ytnbhmcbhpkjgcaa
