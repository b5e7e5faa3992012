/- A head as a value; Parse: what it computes. -/
import Derived.Test.YtajcihcbgmpdjaaSect
import Derived.Laws.Tables
namespace Go.Proofs.Ytajcihcbgmpdjaa
open Go.RowKit

/-- A head's cells: six numbers, sixteen directories of two numbers each, the sections. -/
def headV (base stamp chars entry size headers : Int) (d : Nat → Int) (v : Value) : Array Value :=
  #[.int .u64 base, .int .i64 stamp, .int .i64 chars, .int .i64 entry, .int .i64 size, .int .i64 headers,
    .int .i64 (d 0), .int .i64 (d 1), .int .i64 (d 2), .int .i64 (d 3), .int .i64 (d 4), .int .i64 (d 5), .int .i64 (d 6), .int .i64 (d 7),
    .int .i64 (d 8), .int .i64 (d 9), .int .i64 (d 10), .int .i64 (d 11), .int .i64 (d 12), .int .i64 (d 13), .int .i64 (d 14), .int .i64 (d 15),
    .int .i64 (d 16), .int .i64 (d 17), .int .i64 (d 18), .int .i64 (d 19), .int .i64 (d 20), .int .i64 (d 21), .int .i64 (d 22), .int .i64 (d 23),
    .int .i64 (d 24), .int .i64 (d 25), .int .i64 (d 26), .int .i64 (d 27), .int .i64 (d 28), .int .i64 (d 29), .int .i64 (d 30), .int .i64 (d 31), v]

theorem headV_size (base stamp chars entry size headers : Int) (d : Nat → Int) (v : Value) : (headV base stamp chars entry size headers d v).size = 39 := rfl
theorem headV_one (base stamp chars entry size headers : Int) (d : Nat → Int) (v : Value) (hv : v.oneCell' = true) : (headV base stamp chars entry size headers d v).all (·.oneCell') = true := by
  rw [Array.all_eq_true_iff_forall_mem]
  intro u hu
  simp [headV] at hu
  rcases hu with rfl | rfl | rfl | rfl | rfl | rfl | rfl | rfl | rfl | rfl | rfl | rfl | rfl | rfl | rfl | rfl | rfl | rfl | rfl | rfl | rfl | rfl | rfl | rfl | rfl | rfl | rfl | rfl | rfl | rfl | rfl | rfl | rfl | rfl | rfl | rfl | rfl | rfl | rfl
  all_goals first | rfl | exact hv

/-- No head. -/
def headZ : Array Value := headV 0 0 0 0 0 0 (fun _ => 0) (.slice none 0 0)

/-- One directory is filled in. -/
theorem headV_dir (base stamp chars entry size headers : Int) (d : Nat → Int) (v : Value) (i : Nat) (hi : i < 16) (x y : Int) :
    ((headV base stamp chars entry size headers d v).setIfInBounds (6 + 2 * i) (.int .i64 x)).setIfInBounds (6 + 2 * i + 1) (.int .i64 y) =
      headV base stamp chars entry size headers (fun k => if k = 2 * i then x else if k = 2 * i + 1 then y else d k) v := by
  have : i = 0 ∨ i = 1 ∨ i = 2 ∨ i = 3 ∨ i = 4 ∨ i = 5 ∨ i = 6 ∨ i = 7 ∨ i = 8 ∨ i = 9 ∨ i = 10 ∨ i = 11 ∨ i = 12 ∨ i = 13 ∨ i = 14 ∨ i = 15 := by omega
  rcases this with rfl | rfl | rfl | rfl | rfl | rfl | rfl | rfl | rfl | rfl | rfl | rfl | rfl | rfl | rfl | rfl <;> rfl

theorem headV_ext (base stamp chars entry size headers : Int) (d d' : Nat → Int) (v : Value) (h : ∀ k, k < 32 → d k = d' k) : headV base stamp chars entry size headers d v = headV base stamp chars entry size headers d' v := by
  unfold headV
  rw [h 0 (by decide), h 1 (by decide), h 2 (by decide), h 3 (by decide), h 4 (by decide), h 5 (by decide), h 6 (by decide), h 7 (by decide), h 8 (by decide), h 9 (by decide), h 10 (by decide),
    h 11 (by decide), h 12 (by decide), h 13 (by decide), h 14 (by decide), h 15 (by decide), h 16 (by decide), h 17 (by decide), h 18 (by decide), h 19 (by decide), h 20 (by decide), h 21 (by decide),
    h 22 (by decide), h 23 (by decide), h 24 (by decide), h 25 (by decide), h 26 (by decide), h 27 (by decide), h 28 (by decide), h 29 (by decide), h 30 (by decide), h 31 (by decide)]

theorem headV_cell (base stamp chars entry size headers : Int) (d : Nat → Int) (v : Value) (k : Nat) (hk : k < 39) : ((headV base stamp chars entry size headers d v)[k]?).isSome = true := by
  rw [Array.getElem?_eq_getElem (by rw [headV_size]; exact hk)]
  rfl

/-- A head as it is told. -/
structure HeadD where
  base : Nat
  stamp : Nat
  chars : Nat
  entry : Nat
  size : Nat
  headers : Nat
  d : Nat → Nat
  sects : List SectD

def HeadD.val (h : HeadD) (v : Value) : Value := .agg (headV h.base h.stamp h.chars h.entry h.size h.headers (fun k => h.d k) v)

def headAt (l : List UInt8) (p : Int) (xs : List SectD) : HeadD :=
  ⟨numAt l (p + 48) 8, numAt l (p + 8) 4, numAt l (p + 22) 2, numAt l (p + 40) 4, numAt l (p + 80) 4, numAt l (p + 84) 4, fun k => numAt l (p + (136 + 4 * (k : Int))) 4, xs⟩

/-- What Parse answers behind the sizes; behind the forms; in all. -/
def parse3 (l : List UInt8) (p : Int) : Except Int HeadD :=
  match sectsF l p (headAt l p []).size (headAt l p []).headers with
  | none => .error 7
  | some xs => if (headAt l p []).size ≤ (headAt l p []).entry then .error 5 else .ok (headAt l p xs)

theorem parse3_none {l : List UInt8} {p : Int} (h : sectsF l p (headAt l p []).size (headAt l p []).headers = none) : parse3 l p = .error 7 := by simp [parse3, h]
theorem parse3_some {l : List UInt8} {p : Int} {xs : List SectD} (h : sectsF l p (headAt l p []).size (headAt l p []).headers = some xs) :
    parse3 l p = if (headAt l p []).size ≤ (headAt l p []).entry then .error 5 else .ok (headAt l p xs) := by simp [parse3, h]

def parse2 (l : List UInt8) (p : Int) : Except Int HeadD :=
  if sizesE l p (headAt l p []).base (headAt l p []).size ≠ 0 then .error (sizesE l p (headAt l p []).base (headAt l p []).size) else parse3 l p

def parseF (l : List UInt8) : Except Int HeadD :=
  if startE l ≠ 0 then .error (startE l)
  else if formsE l (numAt l 60 4) ≠ 0 then .error (formsE l (numAt l 60 4))
  else parse2 l (numAt l 60 4)

def ParseOk (r : Except Int HeadD) (w : World) (e : Ending) (w' : World) : Prop :=
  Below w.heap.size w w' ∧
    match r with
    | .error n => e = .returned (.tuple #[.agg headZ, .int .i64 n])
    | .ok h => ∃ v, e = .returned (.tuple #[h.val v, .int .i64 0]) ∧ w'.ownsRow w.heap.size 37 6 v h.sects.length (scells h.sects)

theorem below_setRow {B : Nat} {w w' : World} (h : Below B w w') (g : Nat) (hg : B ≤ g) (cs : Array Value) : Below B w (w'.setRow g cs) :=
  ⟨h.os, h.tape, h.output, by rw [size_setRow]; exact h.size, fun k hk => by
    rw [World.setRow, Array.getElem?_modify, if_neg (by omega), h.block k hk]⟩

theorem Blk.setRow {w : World} {b : Nat} {cs : Array Value} {t : TypeId} (h : Blk w b cs t) (cs' : Array Value) : Blk (w.setRow b cs') b cs' t := setRow_heap w b _ _ t _ h

theorem Blk.setRow_far {w : World} {b g : Nat} {cs : Array Value} {t : TypeId} (h : Blk w b cs t) (hne : g ≠ b) (cs' : Array Value) : Blk (w.setRow g cs') b cs t := by
  unfold Blk at h ⊢
  rw [World.setRow, Array.getElem?_modify, if_neg hne, h]

section
variable {P : Program}
/-- Results of which the first lies in memory. -/
theorem results_ct {fn : Func} {p u : Tmp} {ty : TypeId} (h : fn.results = #[.cell p ty, .tmp u]) (tmps : Array Value) (w : World) (g : Nat) (t : TypeId) (cs : Array Value) (d : TypeDesc)
    (hp : tmps.getD p undef = .pointer (some ⟨g, 0, none⟩)) (hg : Blk w g cs t)
    (hu : P.underlying ty = some d) (hd : (match d with | .struct _ | .array _ _ => true | _ => false) = true) (hi : (P.info? ty).map (·.size) = some cs.size) :
    (results fn tmps).run P w = .ok (.tuple #[.agg cs, tmps.getD u undef]) w := by
  have hp' : tmps[p]?.getD undef = .pointer (some ⟨g, 0, none⟩) := by simpa using hp
  simp [results, h, hp', asAddr, run_loadVar_row w g t ty cs (0, 0) d hg hu hd hi]
end

theorem headInfo : (Try.prog.info? 32).map (·.size) = some 39 := by kernel_rfl
end Go.Proofs.Ytajcihcbgmpdjaa
