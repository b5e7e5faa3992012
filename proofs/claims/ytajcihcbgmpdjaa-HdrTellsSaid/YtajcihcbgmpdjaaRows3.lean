/- Slices of rows of cells that came in: opened. -/
import Derived.Test.YtajcihcbgmpdjaaRows2
import Derived.Test.YtajcihcbgmpdjaaMade
import Derived.Deep.Slices
import Derived.Deep.Strs
namespace Go.Proofs.Ytajcihcbgmpdjaa
open Go.ChangeShapes Go.WideShapes Go.ChangeAt Go.RowKit Go.Deep

theorem flatMap_at {α : Type} (f : α → List Value) (n : Nat) (hf : ∀ x, (f x).length = n) : ∀ (l : List α) (i : Nat) (x : α), l[i]? = some x → ∀ k, k < n → (l.flatMap f)[i * n + k]? = (f x)[k]?
  | [], i, x, h => by simp at h
  | y :: l, 0, x, h => fun k hk => by
    simp at h
    subst h
    rw [Nat.zero_mul, Nat.zero_add, List.flatMap_cons, List.getElem?_append_left (by rw [hf]; exact hk)]
  | y :: l, i + 1, x, h => fun k hk => by
    rw [show (i + 1) * n + k = n + (i * n + k) by rw [Nat.add_mul]; omega, List.flatMap_cons, List.getElem?_append_right (by rw [hf]; omega), hf, show n + (i * n + k) - n = i * n + k by omega]
    exact flatMap_at f n hf l i x (by simpa using h) k hk

theorem flatMap_len {α : Type} (f : α → List Value) (n : Nat) (hf : ∀ x, (f x).length = n) : ∀ l : List α, (l.flatMap f).length = l.length * n
  | [] => by simp
  | y :: l => by rw [List.flatMap_cons, List.length_append, hf, flatMap_len f n hf l, List.length_cons, Nat.add_mul]; omega

/-- A slice of things of n cells each that came in. -/
theorem rows_read {H : Type} {enc : TypeId × Value → H} {P : Program} {W : World} {base : Nat} {spare : Nat → Bool} {held : Bool} {t e : TypeId} {a : Option Addr} {len cap : Nat} {d : DataW H} {ps : List MemPlace} {ts : List TypeId} {ds : List (DataW H)} {j : Nat}
    {α : Type} [Inhabited α] (f : α → List Value) (good : α → Prop) (n : Nat) (hf : ∀ x, (f x).length = n)
    (hel : ∀ m cs y, DataW.trod enc P W base spare held m e cs = some y → cs.length = n → ∃ x, cs = f x ∧ good x)
    (hsz : (DataW.weightsEach P ts ds).all (· ≤ reachBytes) = true) (ht : ts[j]? = some t) (hd : ds[j]? = some d) (hu : P.underlying t = some (.slice e)) (hc : P.cellsOf e = n) (hn : 0 < n) {B : Nat} (hB : P.bytesOf e = B)
    (h : DataW.Trod enc P W base spare held t (.slice a len cap) d ps) :
    ∃ l : List α, l.length = len ∧ len ≤ cap ∧ len * B ≤ 140737488351232 ∧ Row W a (l.flatMap f) ∧ ∀ x ∈ l, good x := by
  obtain ⟨fuel, hfu⟩ := h
  rcases open_slice hu hfu with ⟨hcs, _⟩ | ⟨x, l, c, m, q, D, Pl, hcs, _, hl, _, hm, hx, hcell⟩
  · simp [Value.cells] at hcs
    obtain ⟨rfl, rfl, rfl⟩ := hcs
    exact ⟨[], rfl, by simp, by simp, .inl rfl, by simp⟩
  · simp [Value.cells] at hcs
    obtain ⟨rfl, rfl, rfl⟩ := hcs
    obtain ⟨hx, _⟩ := Prod.mk.inj hx
    subst hx
    have z := sized_slice hsz ht hd hu
    rw [hB] at z
    have hl2 : len ≤ m := by rw [hm]; split <;> omega
    have hX : ∀ i, i < len → ∃ y : α, W.cells? base (x.add (i * n)) n = some (f y) ∧ good y := fun i hi => by
      obtain ⟨cs', h1, h2⟩ := hcell i (by omega)
      rw [hc] at h1
      have hlen : cs'.length = n := (World.cells?_some h1).2.1
      obtain ⟨y, rfl, hg⟩ := hel _ _ _ h2 hlen
      exact ⟨y, h1, hg⟩
    obtain ⟨X, hX⟩ := choose_lt hX
    have hll : ((List.range len).map X).length = len := by simp
    refine ⟨(List.range len).map X, hll, hl, ?_, .inr ⟨x, rfl, fun i hi => ?_⟩, fun y hy => ?_⟩
    · refine Nat.le_trans (Nat.mul_le_mul_right _ ?_) z
      simp
    · rw [flatMap_len f n hf, hll] at hi
      have hq : i / n < len := Nat.div_lt_of_lt_mul (by rw [Nat.mul_comm]; exact hi)
      have hr : i % n < n := Nat.mod_lt _ hn
      have he : i / n * n + i % n = i := Nat.div_add_mod' i n
      have h1 : ((List.range len).map X)[i / n]? = some (X (i / n)) := by simp [hq]
      have h2 := flatMap_at f n hf _ _ _ h1 (i % n) hr
      rw [he] at h2
      have h3 := (World.cells?_some (hX (i / n) hq).1).2.2 (i % n) hr
      rw [addr_add_add, he] at h3
      rw [h3, ← h2, List.getElem?_eq_getElem]
    · simp only [List.mem_map, List.mem_range] at hy
      obtain ⟨i, hi, rfl⟩ := hy
      exact (hX i hi).2

theorem cells_int : Try.prog.cellsOf 3 = 1 := by kernel_rfl
theorem cells_u64 : Try.prog.cellsOf 26 = 1 := by kernel_rfl
theorem cells_arr3 : Try.prog.cellsOf 59 = 3 := by kernel_rfl
theorem cells_turn : Try.prog.cellsOf 61 = 3 := by kernel_rfl

theorem trips_read {H : Type} {enc : TypeId × Value → H} {W : World} {base : Nat} {spare : Nat → Bool} {held : Bool} {a : Option Addr} {len cap : Nat} {d : DataW H} {ps : List MemPlace} {ts : List TypeId} {ds : List (DataW H)} {j : Nat}
    (hsz : (DataW.weightsEach Try.prog ts ds).all (· ≤ reachBytes) = true) (ht : ts[j]? = some 22) (hd : ds[j]? = some d)
    (h : DataW.Trod enc Try.prog W base spare held 22 (.slice a len cap) d ps) : ∃ l : List (Int × Int × Int), l.length = len ∧ Trip W a l.length cap (tcells l) := by
  obtain ⟨l, h1, h2, h3, h4, -⟩ := rows_read (e := 59) (fun x : Int × Int × Int => [.int .i64 x.1, .int .i64 x.2.1, .int .i64 x.2.2]) (fun _ => True) 3 (fun _ => rfl) (fun m cs y hy hl => by
    obtain ⟨xs, k, -, -, -, hxl, hx⟩ := DataW.trod_array Try.underlying59 hy
    match cs, hl with
    | [c0, c1, c2], _ =>
      rw [cells_int] at hx
      have g : ∀ i, i < 3 → ∃ y, DataW.trod enc Try.prog W base spare held k 3 (([c0, c1, c2].drop (i * 1)).take 1) = some y := fun i hi => ⟨xs[i]'(by rw [hxl]; exact hi), by rw [hx i hi, List.getElem?_eq_getElem]⟩
      obtain ⟨y0, g0⟩ := g 0 (by decide)
      obtain ⟨y1, g1⟩ := g 1 (by decide)
      obtain ⟨y2, g2⟩ := g 2 (by decide)
      obtain ⟨n0, e0, -⟩ := DataW.trod_int Try.underlying3 g0
      obtain ⟨n1, e1, -⟩ := DataW.trod_int Try.underlying3 g1
      obtain ⟨n2, e2, -⟩ := DataW.trod_int Try.underlying3 g2
      simp at e0 e1 e2
      exact ⟨(n0, n1, n2), by rw [e0, e1, e2], trivial⟩) hsz ht hd Try.underlying22 cells_arr3 (by decide) (B := 24) (by kernel_rfl) h
  subst h1
  exact ⟨l, rfl, ⟨h4, tcells_length l, h2, by omega⟩⟩

theorem turns_read {H : Type} {enc : TypeId × Value → H} {W : World} {base : Nat} {spare : Nat → Bool} {held : Bool} {a : Option Addr} {len cap : Nat} {d : DataW H} {ps : List MemPlace} {ts : List TypeId} {ds : List (DataW H)} {j : Nat}
    (hsz : (DataW.weightsEach Try.prog ts ds).all (· ≤ reachBytes) = true) (ht : ts[j]? = some 41) (hd : ds[j]? = some d)
    (h : DataW.Trod enc Try.prog W base spare held 41 (.slice a len cap) d ps) : ∃ l : List (Int × Int × Nat), l.length = len ∧ Trip W a l.length cap (ucells l) ∧ ∀ t ∈ l, t.2.2 < 18446744073709551616 := by
  obtain ⟨l, h1, h2, h3, h4, h5⟩ := rows_read (e := 61) (fun x : Int × Int × Nat => [.int .i64 x.1, .int .i64 x.2.1, .int .u64 x.2.2]) (fun t => t.2.2 < 18446744073709551616) 3 (fun _ => rfl) (fun m cs y hy hl => by
    obtain ⟨y0, y1, y2, k, -, -, g0, g1, g2⟩ := trod_struct3 Try.underlying61 hy
    match cs, hl with
    | [c0, c1, c2], _ =>
      simp only [cells_int, cells_u64] at g0 g1 g2
      obtain ⟨n0, e0, -⟩ := DataW.trod_int Try.underlying3 g0
      obtain ⟨n1, e1, -⟩ := DataW.trod_int Try.underlying3 g1
      obtain ⟨n2, e2, -, w2⟩ := DataW.trod_int Try.underlying26 g2
      simp at e0 e1 e2
      obtain ⟨b0, b1⟩ := wf_u64 w2
      obtain ⟨q, rfl⟩ := Int.eq_ofNat_of_zero_le b0
      exact ⟨(n0, n1, q), by rw [e0, e1, e2], by show q < _; omega⟩) hsz ht hd Try.underlying41 cells_turn (by decide) (B := 24) (by kernel_rfl) h
  subst h1
  exact ⟨l, rfl, ⟨h4, ucells_length l, h2, by omega⟩, h5⟩
end Go.Proofs.Ytajcihcbgmpdjaa
