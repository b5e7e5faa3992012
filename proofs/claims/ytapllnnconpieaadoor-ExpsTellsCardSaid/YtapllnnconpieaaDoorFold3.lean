/- fold: ways: texts and their parts. -/
import Derived.Test.YtapllnnconpieaaDoorFold2
import Derived.Lib.AtoiTie
import Derived.Lib.AppendIntMem
import Derived.Lib.LaidTab
import Derived.Laws.Tables
set_option linter.unusedVariables false
namespace Go.Proofs.YtapllnnconpieaaDoor
open Go.RowKit

/-- Where the last point stands. -/
def lastPt : List UInt8 → Option Nat
  | [] => none
  | b :: l => match lastPt l with
    | some k => some (k + 1)
    | none => if b = 46 then some 0 else none

theorem lastPt_spec : ∀ l : List UInt8, (match lastPt l with
    | some k => k < l.length ∧ l[k]? = some 46 ∧ ∀ j, k < j → l[j]? ≠ some 46
    | none => ∀ j : Nat, l[j]? ≠ some 46)
  | [] => by simp [lastPt]
  | b :: l => by
    have ih := lastPt_spec l
    unfold lastPt
    cases h : lastPt l with
    | some k =>
      rw [h] at ih
      obtain ⟨h1, h2, h3⟩ := ih
      refine ⟨by simp; omega, by simpa using h2, fun j hj => ?_⟩
      cases j with
      | zero => omega
      | succ j => simpa using h3 j (by omega)
    | none =>
      rw [h] at ih
      by_cases hb : b = 46
      · rw [if_pos hb]
        refine ⟨by simp, by simp [hb], fun j hj => ?_⟩
        cases j with
        | zero => omega
        | succ j => simpa using ih j
      · rw [if_neg hb]
        intro j
        cases j with
        | zero => simpa using hb
        | succ j => simpa using ih j

theorem lastPt_append (d s : List UInt8) (hs : s.contains 46 = false) : lastPt (d ++ 46 :: s) = some d.length := by
  have hn : lastPt s = none := by
    have h := lastPt_spec s
    cases hk : lastPt s with
    | none => rfl
    | some k =>
      rw [hk] at h
      have := List.mem_of_getElem? h.2.1
      rw [← List.contains_iff_mem] at this
      rw [hs] at this
      cases this
  induction d with
  | nil => simp [lastPt, hn]
  | cons b d ih => simp [lastPt, ih]

theorem lastIndex_pt (l : List UInt8) : Lib.lastIndexByte (S l) 46 = (match lastPt l with | some k => (k : Int) | none => -1) := by
  have hsz := S_size l
  have hget : ∀ j, j < l.length → ((S l).data[j]!) = l[j]! := fun j h => by
    show l.toArray[j]! = l[j]!
    simp
  have hat : ∀ j, j < l.length → (((S l).data[j]!).toNat : Int) = 46 → l[j]? = some 46 := fun j h e => by
    rw [hget j h] at e
    rw [List.getElem?_eq_getElem h]
    rw [getElem!_pos l j h] at e
    congr 1
    apply UInt8.toNat_inj.1
    have : (46 : UInt8).toNat = 46 := rfl
    omega
  have hat2 : ∀ j, j < l.length → l[j]? = some 46 → (((S l).data[j]!).toNat : Int) = 46 := fun j h e => by
    rw [hget j h, getElem!_pos l j h]
    rw [List.getElem?_eq_getElem h] at e
    rw [Option.some.inj e]
    rfl
  have h := lastPt_spec l
  unfold Lib.lastIndexByte
  rcases Lib.lastIdx_spec (S l) 46 (S l).size with ⟨h1, h2⟩ | ⟨i, h1, h2, h3, h4⟩
  · cases hk : lastPt l with
    | none => exact h1
    | some k =>
      rw [hk] at h
      exact absurd (hat2 k h.1 h.2.1) (h2 k (by omega))
  · cases hk : lastPt l with
    | none =>
      rw [hk] at h
      exact absurd (hat i (by omega) h3) (h i)
    | some k =>
      rw [hk] at h
      have : i = k := by
        rcases Nat.lt_trichotomy i k with hlt | rfl | hgt
        · exact absurd (hat2 k h.1 h.2.1) (h4 k hlt (by omega))
        · rfl
        · exact absurd (hat i (by omega) h3) (h.2.2 i hgt)
      rw [h2, this]

/-- A symbol. -/
structure SymD where
  name : List UInt8
  ord : Int
  byOrd : Bool
def SymD.cells (s : SymD) : Array Value := #[.string (S s.name), .int .i64 s.ord, .bool s.byOrd]
/-- What a text of decimal digits tells; none: it is no int's. -/
def atoiN (l : List UInt8) : Option Int := match Lib.atoiAll l with | .ok v => some v | _ => none
theorem atoiN_short (l : List UInt8) (hl : l.length ≤ 18) : atoiN l = Lib.atoi l := by
  unfold atoiN
  rw [Lib.atoiAll_short l hl]
  cases Lib.atoi l <;> rfl
/-- A way's parts. -/
def splitF (l : List UInt8) : Option (List UInt8 × SymD) :=
  match lastPt l with
  | none => none
  | some k =>
    if okF (l.take k) then
      if (l.drop (k + 1)).head? = some 35 then
        match atoiN (l.drop (k + 2)) with
        | none => none
        | some n => if Lib.itoa n = l.drop (k + 2) ∧ 0 ≤ n ∧ n ≤ 65535 then some (l.take k, ⟨[], n, true⟩) else none
      else if symOkF (l.drop (k + 1)) then some (l.take k, ⟨l.drop (k + 1), 0, false⟩) else none
    else none
def symN : SymD := ⟨[], 0, false⟩
def splitV : Option (List UInt8 × SymD) → Value
  | some (d, s) => .tuple #[.string (S d), .agg s.cells, .bool true]
  | none => .tuple #[.string (S []), .agg symN.cells, .bool false]

/-- What the library reads of its variables. -/
structure LibOk (w : World) : Prop where
  tab : Lib.TabIs Tryd.prog w "internal/strconv.uint64pow10" .u64 Lib.pow10Tab
  syn : ∃ te pe, w.cell? ⟨1, 0, none⟩ = some (.iface te pe)
  rng : ∃ te pe, w.cell? ⟨2, 0, none⟩ = some (.iface te pe)
theorem tab_below {P : Program} {n : String} {g : Nat} {k : IntKind} {zs : List Int} {w w' : World} (hg : P.globalNamed n = some g) (h : Lib.TabIs P w n k zs) (hb : Below w.heap.size w w') : Lib.TabIs P w' n k zs := by
  unfold Lib.TabIs World.var? at h ⊢
  rw [hg] at h ⊢
  simp only [Option.bind_some] at h ⊢
  have hlt : g < w.heap.size := by
    rcases Nat.lt_or_ge g w.heap.size with h' | h'
    · exact h'
    · rw [Array.getElem?_eq_none h'] at h; cases h
  rw [hb.block g hlt]
  exact h
theorem addr_below {w w' : World} (hb : Below w.heap.size w w') {a : Addr} {v : Value} (hc : w.cell? a = some v) : w'.cell? a = some v := by
  have hlt : a.block < w.heap.size := by
    rcases Nat.lt_or_ge a.block w.heap.size with h' | h'
    · exact h'
    · simp [World.cell?, Array.getElem?_eq_none h'] at hc
  exact (hb.cell hlt).trans hc
theorem LibOk.below {w w' : World} (h : LibOk w) (hb : Below w.heap.size w w') : LibOk w' := by
  obtain ⟨te, pe, hc⟩ := h.syn
  obtain ⟨tr, pr, hr⟩ := h.rng
  exact ⟨tab_below (g := 3) (by kernel_rfl) h.tab hb, ⟨te, pe, addr_below hb hc⟩, ⟨tr, pr, addr_below hb hr⟩⟩

theorem itoa_S (n : Int) (h0 : -9223372036854775808 ≤ n) (h1 : n ≤ 9223372036854775807) (w : World) (hl : LibOk w) :
    Calls Tryd.prog 32 #[.int .i64 n] w fun e w' => e = .returned (.string (S (Lib.itoa n))) ∧ Below w.heap.size w w' :=
  (Tryd.strconv_Itoa n h0 h1 w hl.tab).mono fun e w' ⟨he, k, os, hw⟩ => ⟨he, hw ▸ Lib.below_grow _ w (Nat.le_refl _) k os⟩
theorem atoiN_bound {l : List UInt8} {n : Int} (h : atoiN l = some n) : -9223372036854775808 ≤ n ∧ n ≤ 9223372036854775807 := by
  unfold atoiN at h
  cases ha : Lib.atoiAll l with
  | ok v =>
    rw [ha] at h
    obtain rfl := Option.some.inj h
    exact Lib.atoiAll_bounds ha
  | range => rw [ha] at h; cases h
  | _ => rw [ha] at h; cases h
theorem atoi_S (l : List UInt8) (n : Int) (hl : l.length ≤ 140737488355328) (h : atoiN l = some n) (w : World) :
    Calls Tryd.prog 31 #[.string (S l)] w fun e w' => e = .returned (.tuple #[.int .i64 n, .nilIface]) ∧ Below w.heap.size w w' := by
  have ha : Lib.atoiAll (S l).data.toList = .ok n := by
    rw [S_list]
    unfold atoiN at h
    cases ha : Lib.atoiAll l with
    | ok v => rw [ha] at h; rw [Option.some.inj h]
    | range => rw [ha] at h; cases h
    | _ => rw [ha] at h; cases h
  refine (Tryd.strconv_Atoi_ok (S l) (by rw [S_size]; omega) n ha w).mono fun e w' ⟨he, hw⟩ => ⟨he, ?_⟩
  rcases hw with rfl | ⟨t, rfl⟩
  · exact Below.refl _ _
  · exact bytesWorld_below w _ t
theorem atoiErr_S (l : List UInt8) (hl : l.length ≤ 140737488355328) (h : atoiN l = none) (w : World) (hk : LibOk w) :
    Calls Tryd.prog 31 #[.string (S l)] w fun e w' => (∃ x t p, e = .returned (.tuple #[.int .i64 x, .iface t (.pointer (some p))])) ∧ Below w.heap.size w w' := by
  unfold atoiN at h
  cases ha : Lib.atoiAll l with
  | ok v => rw [ha] at h; cases h
  | range =>
    obtain ⟨te, pe, hc⟩ := hk.rng
    exact (Tryd.strconv_Atoi_range (S l) (by rw [S_size]; omega) (by rw [S_list]; exact ha) _ w hc (.inr ⟨te, pe, rfl⟩)).mono fun e w' ⟨N, he, _, _, hb⟩ => ⟨⟨_, _, _, he⟩, hb⟩
  | _ =>
    obtain ⟨te, pe, hc⟩ := hk.syn
    exact (Any.strconv_Atoi_syntax Tryd.laysC172 (S l) (by rw [S_size]; omega) (by rw [S_list]; exact ha) _ w hc (.inr ⟨te, pe, rfl⟩)).mono fun e w' ⟨N, he, _, _, hb⟩ => ⟨⟨_, _, _, he⟩, hb⟩
theorem lastIndex_S (l : List UInt8) (hl : l.length ≤ 140737488355328) (w : World) :
    Calls Tryd.prog 29 #[.string (S l), .int .u8 46] w fun e w' => e = .returned (.int .i64 (match lastPt l with | some k => (k : Int) | none => -1)) ∧ w = w' := by
  have h := Tryd.strings_LastIndexByte (S l) 46 (by rw [S_size]; omega) w
  rw [lastIndex_pt] at h
  exact h.mono fun e w' ⟨he, hw⟩ => ⟨he, hw.symm⟩
theorem cutPrefix_S (l : List UInt8) (w : World) :
    Calls Tryd.prog 30 #[.string (S l), .string ⟨#[35]⟩] w fun e w' => e = .returned (.tuple #[.string (S (if l.head? = some 35 then l.drop 1 else l)), .bool (decide (l.head? = some 35))]) ∧ w = w' := by
  have h := Tryd.strings_CutPrefix (S l) ⟨#[35]⟩ w
  have e1 : Lib.hasPrefix (S l).data.toList (ByteArray.mk #[35]).data.toList = decide (l.head? = some 35) := by
    rw [S_list]
    cases l with
    | nil => rfl
    | cons b l =>
      by_cases hb : b = 35
      · subst hb
        simp [Lib.hasPrefix]
      · have h2 : ¬ (35 = b) := fun e => hb e.symm
        have h3 : ((35 : UInt8) == b) = false := by simpa using h2
        simp [Lib.hasPrefix, List.isPrefixOf, hb, h3]
  have e2 : Lib.trimPrefix (S l).data.toList (ByteArray.mk #[35]).data.toList = if l.head? = some 35 then l.drop 1 else l := by
    unfold Lib.trimPrefix
    rw [e1, S_list]
    by_cases hb : l.head? = some 35
    · rw [if_pos hb, if_pos (by simpa using hb)]
      rfl
    · rw [if_neg hb, if_neg (by simpa using hb)]
  rw [e1, e2] at h
  exact h.mono fun e w' ⟨he, hw⟩ => ⟨he, hw.symm⟩

theorem S_ext0 (l : List UInt8) (k : Nat) : (S l).extract 0 k = S (l.take k) := by
  apply ByteArray.ext
  simp [S, ByteArray.data_extract]
theorem S_extn (l : List UInt8) (k : Nat) : (S l).extract k (S l).size = S (l.drop k) := by
  apply ByteArray.ext
  simp [S, ByteArray.data_extract, ByteArray.size]
  rw [List.take_of_length_le (by simp)]

section
variable {P : Program}
/-- Results of which the second lies in memory. -/
theorem results_tct {fn : Func} {t0 p u : Tmp} {ty : TypeId} (h : fn.results = #[.tmp t0, .cell p ty, .tmp u]) (tmps : Array Value) (w : World) (g : Nat) (t : TypeId) (cs : Array Value) (d : TypeDesc)
    (hp : tmps.getD p undef = .pointer (some ⟨g, 0, none⟩)) (hg : w.heap[g]? = some (.cells cs t (0, 0)))
    (hu : P.underlying ty = some d) (hd : (match d with | .struct _ | .array _ _ => true | _ => false) = true) (hi : (P.info? ty).map (·.size) = some cs.size) :
    (results fn tmps).run P w = .ok (.tuple #[tmps.getD t0 undef, .agg cs, tmps.getD u undef]) w := by
  have hp' : tmps[p]?.getD undef = .pointer (some ⟨g, 0, none⟩) := by simpa using hp
  simp [results, h, hp', asAddr, run_loadVar_row w g t ty cs (0, 0) d hg hu hd hi]
end
theorem symInfo : (Tryd.prog.info? 24).map (·.size) = some 3 := by kernel_rfl

end Go.Proofs.YtapllnnconpieaaDoor
