/- GatesPlay: calls that came in; the row of what is wanted; the state between two calls. -/
import Derived.Test.YtnbhmcbhpkjgcaaDo
import Derived.Test.YtnbhmcbhpkjgcaaRows2
import Derived.Deep.Slices
import Derived.Deep.Strs
import Derived.Deep.MidRow
set_option linter.unusedSimpArgs false
set_option linter.unusedVariables false
namespace Go.Proofs.Ytnbhmcbhpkjgcaa
open Go.ChangeShapes Go.WideShapes Go.ChangeAt Go.RowKit Go.Deep

/-- A call: kind, thread, index, gate, number. -/
structure OpD where
  kind : Int
  thread : Int
  index : Int
  gate : Int
  v : Nat
instance : Inhabited OpD := ⟨⟨0, 0, 0, 0, 0⟩⟩
def OpD.cells (x : OpD) : List Value := [.int .i64 x.kind, .int .i64 x.thread, .int .i64 x.index, .int .i64 x.gate, .int .u64 x.v]
def ocells (l : List OpD) : List Value := l.flatMap OpD.cells
theorem ocells_length (l : List OpD) : (ocells l).length = l.length * 5 := by
  induction l with
  | nil => rfl
  | cons x l ih => simp only [ocells, OpD.cells, List.flatMap_cons, List.length_append, List.length_cons, List.length_nil] at ih ⊢; omega
theorem ocells_at : ∀ (l : List OpD) (j : Nat) (x : OpD), l[j]? = some x → (ocells l)[j * 5]? = some (.int .i64 x.kind) ∧ (ocells l)[j * 5 + 1]? = some (.int .i64 x.thread) ∧ (ocells l)[j * 5 + 2]? = some (.int .i64 x.index) ∧ (ocells l)[j * 5 + 3]? = some (.int .i64 x.gate) ∧ (ocells l)[j * 5 + 4]? = some (.int .u64 x.v) := by
  intro l
  induction l with
  | nil => intro j x h; simp at h
  | cons y l ih =>
    intro j x h
    rcases j with _ | j
    · simp at h
      subst h
      exact ⟨rfl, rfl, rfl, rfl, rfl⟩
    · have h := ih j x (by simpa using h)
      rw [show (j + 1) * 5 = j * 5 + 5 by omega]
      exact h

/-- The calls, in memory. -/
structure Ops (w : World) (A : Option Addr) (l : List OpD) (c : Nat) : Prop where
  row : Row w A (ocells l)
  le : l.length ≤ c
  mx : l.length ≤ 140737488351232
  v : ∀ x ∈ l, x.v < 18446744073709551616 ∧ -9223372036854775808 ≤ x.index ∧ x.index < 9223372036854775808

theorem Ops.below {w w' : World} {A : Option Addr} {l : List OpD} {c : Nat} (h : Ops w A l c) (hb : Below w.heap.size w w') : Ops w' A l c := ⟨h.row.below hb, h.le, h.mx, h.v⟩

theorem Ops.at' {w : World} {ad : Addr} {l : List OpD} {c : Nat} (h : Ops w (some ad) l c) {j : Nat} {x : OpD} (hj : l[j]? = some x) :
    w.cell? (ad.add (j * 5)) = some (.int .i64 x.kind) ∧ w.cell? ⟨(ad.add (j * 5)).block, (ad.add (j * 5)).off + 1, none⟩ = some (.int .i64 x.thread) ∧ w.cell? ⟨(ad.add (j * 5)).block, (ad.add (j * 5)).off + 2, none⟩ = some (.int .i64 x.index) ∧
      w.cell? ⟨(ad.add (j * 5)).block, (ad.add (j * 5)).off + 3, none⟩ = some (.int .i64 x.gate) ∧ w.cell? ⟨(ad.add (j * 5)).block, (ad.add (j * 5)).off + 4, none⟩ = some (.int .u64 x.v) := by
  obtain ⟨k0, k1, k2, k3, k4⟩ := ocells_at l j x hj
  have hc : ∀ (k : Nat) (v : Value), (ocells l)[k]? = some v → w.cell? (ad.add k) = some v := fun k v hk => by
    obtain ⟨hlt, he⟩ := List.getElem?_eq_some_iff.1 hk
    obtain ⟨ad', e, hc⟩ := h.row.cell hlt
    obtain rfl := Option.some.inj e
    rw [hc, he]
  have a1 : (⟨(ad.add (j * 5)).block, (ad.add (j * 5)).off + 1, none⟩ : Addr) = ad.add (j * 5 + 1) := by rw [← addr_add_add]; rfl
  have a2 : (⟨(ad.add (j * 5)).block, (ad.add (j * 5)).off + 2, none⟩ : Addr) = ad.add (j * 5 + 2) := by rw [← addr_add_add]; rfl
  have a3 : (⟨(ad.add (j * 5)).block, (ad.add (j * 5)).off + 3, none⟩ : Addr) = ad.add (j * 5 + 3) := by rw [← addr_add_add]; rfl
  have a4 : (⟨(ad.add (j * 5)).block, (ad.add (j * 5)).off + 4, none⟩ : Addr) = ad.add (j * 5 + 4) := by rw [← addr_add_add]; rfl
  rw [a1, a2, a3, a4]
  exact ⟨hc _ _ k0, hc _ _ k1, hc _ _ k2, hc _ _ k3, hc _ _ k4⟩

theorem Ops.some {w : World} {A : Option Addr} {l : List OpD} {c : Nat} (h : Ops w A l c) {j : Nat} (hj : j < l.length) : ∃ ad, A = some ad := by
  obtain ⟨ad, e, _⟩ := h.row.cell (j := j * 5) (by rw [ocells_length]; omega)
  exact ⟨ad, e⟩

theorem flatMap_at {α : Type} (f : α → List Value) (n : Nat) (hf : ∀ x, (f x).length = n) : ∀ (l : List α) (i : Nat) (x : α), l[i]? = some x → ∀ k, k < n → (l.flatMap f)[i * n + k]? = (f x)[k]?
  | [], i, x, h => by simp at h
  | y :: l, 0, x, h => fun k hk => by
    simp at h
    subst h
    rw [Nat.zero_mul, Nat.zero_add, List.flatMap_cons, List.getElem?_append_left (by rw [hf]; exact hk)]
  | y :: l, i + 1, x, h => fun k hk => by
    rw [show (i + 1) * n + k = n + (i * n + k) by rw [Nat.add_mul]; omega, List.flatMap_cons, List.getElem?_append_right (by rw [hf]; omega), hf, show n + (i * n + k) - n = i * n + k by omega]
    exact flatMap_at f n hf l i x (by simpa using h) k hk

theorem flatMap_len {α : Type} (f : α → List Value) (n : Nat) (hf : ∀ x, (f x).length = n) : ∀ l : List α, (l.flatMap f).length = l.length * n
  | [] => by simp
  | y :: l => by rw [List.flatMap_cons, List.length_append, hf, flatMap_len f n hf l, List.length_cons, Nat.add_mul]; omega

/-- A slice of things of n cells each that came in. -/
theorem rows_read {H : Type} {enc : TypeId × Value → H} {P : Program} {W : World} {base : Nat} {spare : Nat → Bool} {held : Bool} {t e : TypeId} {a : Option Addr} {len cap : Nat} {d : DataW H} {ps : List MemPlace} {ts : List TypeId} {ds : List (DataW H)} {j : Nat}
    {α : Type} [Inhabited α] (f : α → List Value) (good : α → Prop) (n : Nat) (hf : ∀ x, (f x).length = n)
    (hel : ∀ m cs y, DataW.trod enc P W base spare held m e cs = some y → cs.length = n → ∃ x, cs = f x ∧ good x)
    (hsz : (DataW.weightsEach P ts ds).all (· ≤ reachBytes) = true) (ht : ts[j]? = some t) (hd : ds[j]? = some d) (hu : P.underlying t = some (.slice e)) (hc : P.cellsOf e = n) (hn : 0 < n) {B : Nat} (hB : P.bytesOf e = B)
    (h : DataW.Trod enc P W base spare held t (.slice a len cap) d ps) :
    ∃ l : List α, l.length = len ∧ len ≤ cap ∧ len * B ≤ 140737488351232 ∧ Row W a (l.flatMap f) ∧ ∀ x ∈ l, good x := by
  obtain ⟨fuel, hfu⟩ := h
  rcases open_slice hu hfu with ⟨hcs, _⟩ | ⟨x, l, c, m, q, D, Pl, hcs, _, hl, _, hm, hx, hcell⟩
  · simp [Value.cells] at hcs
    obtain ⟨rfl, rfl, rfl⟩ := hcs
    exact ⟨[], rfl, by simp, by simp, .inl rfl, by simp⟩
  · simp [Value.cells] at hcs
    obtain ⟨rfl, rfl, rfl⟩ := hcs
    obtain ⟨hx, _⟩ := Prod.mk.inj hx
    subst hx
    have z := sized_slice hsz ht hd hu
    rw [hB] at z
    have hl2 : len ≤ m := by rw [hm]; split <;> omega
    have hX : ∀ i, i < len → ∃ y : α, W.cells? base (x.add (i * n)) n = Option.some (f y) ∧ good y := fun i hi => by
      obtain ⟨cs', h1, h2⟩ := hcell i (by omega)
      rw [hc] at h1
      have hlen : cs'.length = n := (World.cells?_some h1).2.1
      obtain ⟨y, rfl, hg⟩ := hel _ _ _ h2 hlen
      exact ⟨y, h1, hg⟩
    obtain ⟨X, hX⟩ := choose_lt hX
    have hll : ((List.range len).map X).length = len := by simp
    refine ⟨(List.range len).map X, hll, hl, ?_, .inr ⟨x, rfl, fun i hi => ?_⟩, fun y hy => ?_⟩
    · refine Nat.le_trans (Nat.mul_le_mul_right _ ?_) z
      simp
    · rw [flatMap_len f n hf, hll] at hi
      have hq : i / n < len := Nat.div_lt_of_lt_mul (by rw [Nat.mul_comm]; exact hi)
      have hr : i % n < n := Nat.mod_lt _ hn
      have he : i / n * n + i % n = i := Nat.div_add_mod' i n
      have h1 : ((List.range len).map X)[i / n]? = Option.some (X (i / n)) := by simp [hq]
      have h2 := flatMap_at f n hf _ _ _ h1 (i % n) hr
      rw [he] at h2
      have h3 := (World.cells?_some (hX (i / n) hq).1).2.2 (i % n) hr
      rw [addr_add_add, he] at h3
      rw [h3, ← h2, List.getElem?_eq_getElem]
    · simp only [List.mem_map, List.mem_range] at hy
      obtain ⟨i, hi, rfl⟩ := hy
      exact (hX i hi).2

theorem cells_int : Try.prog.cellsOf 3 = 1 := by kernel_rfl
theorem cells_u64 : Try.prog.cellsOf 23 = 1 := by kernel_rfl
theorem cells_op : Try.prog.cellsOf 50 = 5 := by kernel_rfl

theorem trod_struct5' {H : Type} {enc : TypeId × Value → H} {P : Program} {w : World} {base : Nat} {spare : Nat → Bool} {held : Bool} {t : TypeId} {f0 f1 f2 f3 f4 : Field} {fuel : Nat} {cs : List Value} {x : DataW H × List MemPlace} (ht : P.underlying t = some (.struct #[f0, f1, f2, f3, f4])) (h : DataW.trod enc P w base spare held fuel t cs = some x) :
    ∃ y0 y1 y2 y3 y4 n, DataW.trod enc P w base spare held n f0.type ((cs.drop f0.offset).take (P.cellsOf f0.type)) = some y0 ∧ DataW.trod enc P w base spare held n f1.type ((cs.drop f1.offset).take (P.cellsOf f1.type)) = some y1 ∧
      DataW.trod enc P w base spare held n f2.type ((cs.drop f2.offset).take (P.cellsOf f2.type)) = some y2 ∧ DataW.trod enc P w base spare held n f3.type ((cs.drop f3.offset).take (P.cellsOf f3.type)) = some y3 ∧
      DataW.trod enc P w base spare held n f4.type ((cs.drop f4.offset).take (P.cellsOf f4.type)) = some y4 := by
  obtain ⟨xs, n, _, _, _, hlen, hf⟩ := DataW.trod_struct ht h
  match xs, hlen with
  | [y0, y1, y2, y3, y4], _ => exact ⟨y0, y1, y2, y3, y4, n, by simpa using hf 0 f0 rfl, by simpa using hf 1 f1 rfl, by simpa using hf 2 f2 rfl, by simpa using hf 3 f3 rfl, by simpa using hf 4 f4 rfl⟩

set_option maxRecDepth 20000 in
theorem ops_read {H : Type} {enc : TypeId × Value → H} {W : World} {base : Nat} {spare : Nat → Bool} {held : Bool} {a : Option Addr} {len cap : Nat} {d : DataW H} {ps : List MemPlace} {ts : List TypeId} {ds : List (DataW H)} {j : Nat}
    (hsz : (DataW.weightsEach Try.prog ts ds).all (· ≤ reachBytes) = true) (ht : ts[j]? = some 42) (hd : ds[j]? = some d)
    (h : DataW.Trod enc Try.prog W base spare held 42 (.slice a len cap) d ps) : ∃ l : List OpD, l.length = len ∧ Ops W a l cap := by
  obtain ⟨l, h1, h2, h3, h4, h5⟩ := rows_read (e := 50) OpD.cells (fun x => x.v < 18446744073709551616 ∧ -9223372036854775808 ≤ x.index ∧ x.index < 9223372036854775808) 5 (fun _ => rfl) (fun m cs y hy hl => by
    obtain ⟨y0, y1, y2, y3, y4, k, g0, g1, g2, g3, g4⟩ := trod_struct5' Try.underlying50 hy
    match cs, hl with
    | [c0, c1, c2, c3, c4], _ =>
      simp only [cells_int, cells_u64] at g0 g1 g2 g3 g4
      obtain ⟨n0, e0, -⟩ := DataW.trod_int Try.underlying3 g0
      obtain ⟨n1, e1, -⟩ := DataW.trod_int Try.underlying3 g1
      obtain ⟨n2, e2, -, w2⟩ := DataW.trod_int Try.underlying3 g2
      obtain ⟨n3, e3, -⟩ := DataW.trod_int Try.underlying3 g3
      obtain ⟨n4, e4, -, w4⟩ := DataW.trod_int Try.underlying23 g4
      simp at e0 e1 e2 e3 e4
      obtain ⟨b0, b1⟩ := wf_u64 w4
      obtain ⟨q, rfl⟩ := Int.eq_ofNat_of_zero_le b0
      obtain ⟨d0, d1⟩ := wf_i64 w2
      exact ⟨⟨n0, n1, n2, n3, q⟩, by rw [e0, e1, e2, e3, e4]; rfl, by show q < _; omega, d0, by show n2 < _; omega⟩) hsz ht hd Try.underlying42 cells_op (by decide) (B := 40) (by kernel_rfl) h
  subst h1
  exact ⟨l, rfl, ⟨h4, h2, by omega, h5⟩⟩

/-- What is wanted: four rows of thirty-two numbers. -/
def cells128 (W : Nat → Nat → Int) : Array Value := ((List.range 128).map fun i => Value.int .u64 (W (i / 32) (i % 32))).toArray
theorem cells128_size (W : Nat → Nat → Int) : (cells128 W).size = 128 := by simp [cells128]
theorem cells128_at (W : Nat → Nat → Int) (i : Nat) (h : i < 128) : (cells128 W)[i]? = some (.int .u64 (W (i / 32) (i % 32))) := by simp [cells128, h]
theorem cells128_get (W : Nat → Nat → Int) (k q : Nat) (hk : k < 4) (hq : q < 32) : (cells128 W)[k * 32 + q]? = some (.int .u64 (W k q)) := by
  rw [cells128_at W _ (by omega), show (k * 32 + q) / 32 = k by omega, show (k * 32 + q) % 32 = q by omega]
def setW (W : Nat → Nat → Int) (k q : Nat) (v : Int) : Nat → Nat → Int := fun a b => if a = k ∧ b = q then v else W a b
theorem cells128_set (W : Nat → Nat → Int) (k q : Nat) (v : Int) (hk : k < 4) (hq : q < 32) : (cells128 W).setIfInBounds (k * 32 + q) (.int .u64 v) = cells128 (setW W k q v) := by
  apply Array.ext_getElem?
  intro i
  by_cases hi : i < 128
  · rw [cells128_at _ i hi, Array.getElem?_setIfInBounds, cells128_at _ i hi, cells128_size]
    by_cases h : k * 32 + q = i
    · subst h
      rw [if_pos rfl, if_pos hi, show (k * 32 + q) / 32 = k by omega, show (k * 32 + q) % 32 = q by omega]
      simp [setW]
    · rw [if_neg h]
      have : ¬ (i / 32 = k ∧ i % 32 = q) := by omega
      simp [setW, this]
  · have h1 : (cells128 W).size = 128 := cells128_size W
    have h2 := cells128_size (setW W k q v)
    rw [Array.getElem?_eq_none (by simp [h1]; omega), Array.getElem?_eq_none (by omega)]
theorem infoWant : (Try.prog.info? 48).map (·.zero) = some (some (.agg (cells128 fun _ _ => 0))) := by kernel_rfl
theorem zero_of {P : Program} (t : TypeId) (v : Value) (h : (P.info? t).map (·.zero) = some (some v)) (w : World) : (zeroValue t).run P w = .ok v w := by
  obtain ⟨i0, hi0, hz⟩ := Option.map_eq_some_iff.1 h
  simp [zeroValue, typeInfo, hi0, hz]
theorem zero_want (w : World) : (zeroValue 48).run Try.prog w = .ok (.agg (cells128 fun _ _ => 0)) w := zero_of _ _ infoWant w
def clrW (W : Nat → Nat → Int) (k : Nat) : Nat → Nat → Int := fun a b => if a = k then 0 else W a b

/-- The state between two calls. -/
structure Play (w0 w : World) (fs : Nat → Prop) (sp gc gw : Nat) (N : Int → Nat → Int) (W : Nat → Nat → Int) (a b : Value) (r0 r1 r2 : Int) : Prop where
  st : SlotsIn w0 w fs sp N
  cpu : Blk w gc (cpuL a b r0 r1 r2) 97
  want : Blk w gw (cells128 W) 48
  nc : ¬ fs gc
  nw : ¬ fs gw
  ne : gc ≠ gw
  c0 : w0.heap.size ≤ gc
  g0 : w0.heap.size ≤ gw
  eq : ∀ (t x : Nat), 1 ≤ t → t < 4 → x < 32 → N t x = W t x

variable {w0 w w' : World} {fs fs' : Nat → Prop} {sp gc gw : Nat} {N N' : Int → Nat → Int} {W W' : Nat → Nat → Int} {a b : Value} {r0 r1 r2 s0 s1 s2 : Int}

theorem Play.below (h : Play w0 w fs sp gc gw N W a b r0 r1 r2) (hb : Below w.heap.size w w') : Play w0 w' fs sp gc gw N W a b r0 r1 r2 :=
  ⟨h.st.below hb, h.cpu.below hb, h.want.below hb, h.nc, h.nw, h.ne, h.c0, h.g0, h.eq⟩

/-- The numbers were changed. -/
theorem Play.next (h : Play w0 w fs sp gc gw N W a b r0 r1 r2) (hn : SlotsNext w w' fs sp N' fs') (he : ∀ (t x : Nat), 1 ≤ t → t < 4 → x < 32 → N' t x = W' t x) (hW : Blk w' gw (cells128 W) 48 → Blk w' gw (cells128 W') 48) : Play w0 w' fs' sp gc gw N' W' a b r0 r1 r2 :=
  ⟨h.st.next hn, h.cpu.only hn.only h.nc, hW (h.want.only hn.only h.nw), fun hf => by
    rcases hn.fresh _ hf with h2 | h2
    · exact h.nc h2
    · have := h.cpu.lt; omega, fun hf => by
    rcases hn.fresh _ hf with h2 | h2
    · exact h.nw h2
    · have := h.want.lt; omega, h.ne, h.c0, h.g0, he⟩

/-- The processor was changed. -/
theorem Play.regs (h : Play w0 w fs sp gc gw N W a b r0 r1 r2) (hc : Blk w' gc (cpuL a b s0 s1 s2) 97) (ho : Only w w' (· = gc)) : Play w0 w' fs sp gc gw N W a b s0 s1 s2 :=
  ⟨⟨h.st.st.of_only ho (fun g hg e => h.nc (e ▸ hg)), ho.below h.st.up h.st.up.size (fun g e => e ▸ h.c0), h.st.lo, fun g hg => Nat.lt_of_lt_of_le (h.st.hi g hg) ho.size⟩, hc, h.want.only ho (fun e => h.ne e.symm), h.nc, h.nw, h.ne, h.c0, h.g0, h.eq⟩

/-- A block of another's was changed. -/
theorem Play.other (h : Play w0 w fs sp gc gw N W a b r0 r1 r2) (g : Nat) (ho : Only w w' (· = g)) (hg : w0.heap.size ≤ g) (hf : ¬ fs g) (h1 : g ≠ gc) (h2 : g ≠ gw) : Play w0 w' fs sp gc gw N W a b r0 r1 r2 :=
  ⟨⟨h.st.st.of_only ho (fun k hk e => hf (e ▸ hk)), ho.below h.st.up h.st.up.size (fun k e => e ▸ hg), h.st.lo, fun k hk => Nat.lt_of_lt_of_le (h.st.hi k hk) ho.size⟩, h.cpu.only ho (fun e => h1 e.symm), h.want.only ho (fun e => h2 e.symm), h.nc, h.nw, h.ne, h.c0, h.g0, h.eq⟩

/-- What is wanted was changed. -/
theorem Play.wants (h : Play w0 w fs sp gc gw N W a b r0 r1 r2) (hW : Blk w' gw (cells128 W') 48) (ho : Only w w' (· = gw)) (he : ∀ (t x : Nat), 1 ≤ t → t < 4 → x < 32 → N t x = W' t x) : Play w0 w' fs sp gc gw N W' a b r0 r1 r2 :=
  ⟨⟨h.st.st.of_only ho (fun g hg e => h.nw (e ▸ hg)), ho.below h.st.up h.st.up.size (fun g e => e ▸ h.g0), h.st.lo, fun g hg => Nat.lt_of_lt_of_le (h.st.hi g hg) ho.size⟩, h.cpu.only ho h.ne, hW, h.nc, h.nw, h.ne, h.c0, h.g0, he⟩

/-- An index that is asked, or raw. -/
def xF (n : Int) : Int := if bits .and .i64 n 7 = 7 then n else bits .and .i64 n 31
def ownB (t : Int) : Bool := decide (0 < t ∧ t < 4)
/-- What is told of it. -/
theorem Play.told (h : Play w0 w fs sp gc gw N W a b r0 r1 r2) {t x : Nat} (h1 : 1 ≤ t) (h2 : t < 4) (h3 : x < 32) : getN N t x = W t x := by
  rw [getN_yes N t x (by omega) h3, h.eq t x h1 h2 h3]
theorem getN_no (N : Int → Nat → Int) (t x : Int) (h : mayB t x = false) : getN N t x = 0 := by rw [getN, h]; simp

def clrTo (W : Nat → Nat → Int) (k m : Nat) : Nat → Nat → Int := fun a b => if a = k ∧ b < m then 0 else W a b
theorem clrTo_step (W : Nat → Nat → Int) (k m : Nat) : setW (clrTo W k m) k m 0 = clrTo W k (m + 1) := by
  funext a b
  simp only [setW, clrTo]
  by_cases h1 : a = k
  · by_cases h2 : b = m
    · simp [h1, h2]
    · have : (b < m + 1) = (b < m) := by rw [eq_iff_iff]; omega
      simp [h1, h2, this]
  · simp [h1]
theorem blk_clr {w : World} {gw k : Nat} {W : Nat → Nat → Int} {T : TypeId} (hk : k < 4) : ∀ (n m : Nat) (w : World), m + n = 32 → Blk w gw (cells128 (clrTo W k m)) T → Blk (w.setCells gw (k * 32 + m) (List.replicate n (.int .u64 0))) gw (cells128 (clrTo W k 32)) T ∧ Only w (w.setCells gw (k * 32 + m) (List.replicate n (.int .u64 0))) (· = gw)
  | 0, m, w, h, hb => by
    obtain rfl : m = 32 := by omega
    exact ⟨hb, Only.refl _ _⟩
  | n + 1, m, w, h, hb => by
    have h1 := hb.set' (k * 32 + m) (.int .u64 0)
    rw [cells128_set _ k m 0 hk (by omega), clrTo_step] at h1
    obtain ⟨h2, h3⟩ := blk_clr (w := w) (W := W) hk n (m + 1) _ (by omega) h1
    rw [List.replicate_succ, World.setCells]
    exact ⟨h2, (Only.setCell w ⟨gw, k * 32 + m, none⟩ _ (· = gw) rfl).trans h3⟩
theorem clrTo_all (W : Nat → Nat → Int) (k a b : Nat) (hb : b < 32) : clrTo W k 32 a b = if a = k then 0 else W a b := by
  simp [clrTo, hb]
theorem clrTo_zero (W : Nat → Nat → Int) (k : Nat) : clrTo W k 0 = W := by
  funext a b
  simp [clrTo]
/-- A row of noughts. -/
theorem Play.clrs (h : Play w0 w fs sp gc gw N W a b r0 r1 r2) {k : Nat} (hk : k < 4) : Blk (w.setCells gw (k * 32) (List.replicate 32 (.int .u64 0))) gw (cells128 (clrTo W k 32)) 48 ∧ Only w (w.setCells gw (k * 32) (List.replicate 32 (.int .u64 0))) (· = gw) :=
  blk_clr (w := w) (W := W) hk 32 0 w (by omega) (by rw [clrTo_zero]; exact h.want)

/-- A column of noughts. -/
def colW (W : Nat → Nat → Int) (n q : Nat) : Nat → Nat → Int := fun a b => if a < n ∧ b = q then 0 else W a b
theorem colW_step (W : Nat → Nat → Int) (n q : Nat) : setW (colW W n q) n q 0 = colW W (n + 1) q := by
  funext a b
  simp only [setW, colW]
  by_cases h1 : b = q
  · by_cases h2 : a = n
    · simp [h1, h2]
    · have : (a < n + 1) = (a < n) := by rw [eq_iff_iff]; omega
      simp [h1, h2, this]
  · simp [h1]
theorem colW_zero (W : Nat → Nat → Int) (q : Nat) : colW W 0 q = W := by
  funext a b
  simp [colW]
/-- A number set, both there and in what is wanted. -/
theorem Play.setEq (h : Play w0 w fs sp gc gw N W a b r0 r1 r2) (p q : Nat) (v : Int) : ∀ (t x : Nat), 1 ≤ t → t < 4 → x < 32 → updN N p q v t x = setW W p q v t x := fun t x h1 h2 h3 => by
  simp only [updN, setW]
  by_cases hh : t = p ∧ x = q
  · rw [if_pos hh, if_pos (by omega)]
  · rw [if_neg hh, if_neg (by omega), h.eq t x h1 h2 h3]
theorem Play.clrEq (h : Play w0 w fs sp gc gw N W a b r0 r1 r2) (p : Nat) : ∀ (t x : Nat), 1 ≤ t → t < 4 → x < 32 → clrN N p t x = clrTo W p 32 t x := fun t x h1 h2 h3 => by
  rw [clrTo_all W p t x h3, clrN]
  by_cases hh : t = p
  · rw [if_pos hh, if_pos (by omega)]
  · rw [if_neg hh, if_neg (by omega), h.eq t x h1 h2 h3]
theorem Play.clrNo (h : Play w0 w fs sp gc gw N W a b r0 r1 r2) (p : Int) (hp : p ≤ 0) : ∀ (t x : Nat), 1 ≤ t → t < 4 → x < 32 → clrN N p t x = W t x := fun t x h1 h2 h3 => by
  rw [clrN, if_neg (by omega), h.eq t x h1 h2 h3]
theorem Play.freeEq (h : Play w0 w fs sp gc gw N W a b r0 r1 r2) (q : Nat) : ∀ (t x : Nat), 1 ≤ t → t < 4 → x < 32 → freeN N q t x = colW W 4 q t x := fun t x h1 h2 h3 => by
  simp only [freeN, colW]
  by_cases hh : x = q
  · rw [if_pos hh, if_pos ⟨h2, hh⟩]
  · rw [if_neg hh, if_neg (by omega), h.eq t x h1 h2 h3]

/-- The numbers were changed, and then what is wanted. -/
theorem Play.step {w1 w2 : World} (h : Play w0 w fs sp gc gw N W a b r0 r1 r2) (hn : SlotsNext w w1 fs sp N' fs') (ho : Only w1 w2 (· = gw)) (hW : Blk w1 gw (cells128 W) 48 → Blk w2 gw (cells128 W') 48) (he : ∀ (t x : Nat), 1 ≤ t → t < 4 → x < 32 → N' t x = W' t x) : Play w0 w2 fs' sp gc gw N' W' a b r0 r1 r2 := by
  have hs := h.st.next hn
  have hnf : ¬ fs' gw := fun hf => by
    rcases hn.fresh _ hf with h2 | h2
    · exact h.nw h2
    · have := h.want.lt; omega
  have hnc : ¬ fs' gc := fun hf => by
    rcases hn.fresh _ hf with h2 | h2
    · exact h.nc h2
    · have := h.cpu.lt; omega
  exact ⟨⟨hs.st.of_only ho (fun g hg e => hnf (e ▸ hg)), ho.below hs.up hs.up.size (fun g e => e ▸ h.g0), hs.lo, fun g hg => Nat.lt_of_lt_of_le (hs.hi g hg) ho.size⟩, (h.cpu.only hn.only h.nc).only ho h.ne, hW (h.want.only hn.only h.nw), hnc, hnf, h.ne, h.c0, h.g0, he⟩
theorem Play.stepSet (h : Play w0 w fs sp gc gw N W a b r0 r1 r2) {w1 : World} {p q : Nat} {v : Int} (p4 : p < 4) (q32 : q < 32) (hn : SlotsNext w w1 fs sp (updN N p q v) fs') : Play w0 (w1.setCell ⟨gw, p * 32 + q, none⟩ (.int .u64 v)) fs' sp gc gw (updN N p q v) (setW W p q v) a b r0 r1 r2 :=
  h.step hn (Only.setCell w1 ⟨gw, p * 32 + q, none⟩ (.int .u64 v) (· = gw) rfl) (fun hb => by
    have := hb.set' (p * 32 + q) (.int .u64 v)
    rwa [cells128_set W p q v p4 q32] at this) (h.setEq p q v)
theorem Play.stepClr (h : Play w0 w fs sp gc gw N W a b r0 r1 r2) {w1 : World} {p : Nat} (p4 : p < 4) (hn : SlotsNext w w1 fs sp (clrN N p) fs') : Play w0 (w1.setCells gw (p * 32) (List.replicate 32 (.int .u64 0))) fs' sp gc gw (clrN N p) (clrTo W p 32) a b r0 r1 r2 := by
  have hb := blk_clr (w := w1) (W := W) (gw := gw) (T := 48) p4 32 0 w1 (by omega) (by rw [clrTo_zero]; exact h.want.only hn.only h.nw)
  exact h.step hn hb.2 (fun _ => hb.1) (h.clrEq p)
theorem infoRow32 : (Try.prog.info? 47).map (·.size) = some 32 := by kernel_rfl
theorem blk_there {w : World} {gw p : Nat} {W : Nat → Nat → Int} {T : TypeId} (h : Blk w gw (cells128 W) T) (p4 : p < 4) : w.there gw (p * 32) 32 := fun j hj => by
  rw [h.cell, cells128_get W p j p4 hj]
  exact ⟨rfl, h.free _⟩
end Go.Proofs.Ytnbhmcbhpkjgcaa
