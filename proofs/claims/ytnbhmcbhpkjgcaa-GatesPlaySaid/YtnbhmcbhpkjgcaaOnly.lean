/- What a step leaves: only some blocks of those that were there have turned. -/
import Derived.Test.YtnbhmcbhpkjgcaaUp
import Derived.Laws.Tables
set_option linter.unusedVariables false
namespace Go.Proofs.Ytnbhmcbhpkjgcaa
open Go.RowKit

/-- What a step leaves: only one block of those that were there has turned. -/
structure Only (w w' : World) (fs : Nat → Prop) : Prop where
  os : w'.os = w.os
  tape : w'.tape = w.tape
  output : w'.output = w.output
  size : w.heap.size ≤ w'.heap.size
  same : ∀ g, g < w.heap.size → ¬ fs g → w'.heap[g]? = w.heap[g]?

theorem Only.refl (w : World) (fs : Nat → Prop) : Only w w fs := ⟨rfl, rfl, rfl, Nat.le_refl _, fun _ _ _ => rfl⟩
theorem Only.mono {w w' : World} {fs fs' : Nat → Prop} (h : Only w w' fs) (hf : ∀ g, g < w.heap.size → fs g → fs' g) : Only w w' fs' := ⟨h.os, h.tape, h.output, h.size, fun g hg hn => h.same g hg (fun hh => hn (hf g hg hh))⟩
theorem Only.trans {w w' w'' : World} {fs : Nat → Prop} (h : Only w w' fs) (h' : Only w' w'' fs) : Only w w'' fs :=
  ⟨h'.os.trans h.os, h'.tape.trans h.tape, h'.output.trans h.output, Nat.le_trans h.size h'.size, fun g hg hn => (h'.same g (Nat.lt_of_lt_of_le hg h.size) hn).trans (h.same g hg hn)⟩
theorem Only.below {w0 w w' : World} {fs : Nat → Prop} {B : Nat} (hb : Below B w0 w) (h : Only w w' fs) (hB : B ≤ w.heap.size) (hf : ∀ g, fs g → B ≤ g) : Below B w0 w' :=
  ⟨h.os.trans hb.os, h.tape.trans hb.tape, h.output.trans hb.output, Nat.le_trans hb.size h.size, fun g hg => by
    rw [h.same g (by omega) (fun hh => by have := hf g hh; omega), hb.block g hg]⟩
theorem Only.alloc (w : World) (o : Obj) (fs : Nat → Prop) : Only w (w.alloc o) fs :=
  ⟨rfl, rfl, rfl, by simp, fun g hg _ => heap_alloc_old w o hg⟩
theorem Only.setCell (w : World) (p : Addr) (v : Value) (fs : Nat → Prop) (hp : fs p.block) : Only w (w.setCell p v) fs :=
  ⟨rfl, rfl, rfl, by simp [World.setCell], fun g _ hn => heap_setCell_other w p g v (fun e => hn (e ▸ hp))⟩
theorem Only.of_below {w w' : World} (h : Below w.heap.size w w') (fs : Nat → Prop) : Only w w' fs := ⟨h.os, h.tape, h.output, h.size, fun g hg _ => h.block g hg⟩
theorem Only.set {W w : World} {fs : Nat → Prop} (h : Only W w fs) {p : Addr} (hp : fs p.block ∨ W.heap.size ≤ p.block) (v : Value) : Only W (w.setCell p v) fs :=
  ⟨h.os, h.tape, h.output, by simp [World.setCell]; exact h.size, fun g hg hn => by
    rw [heap_setCell_other w p g v (fun e => by
      rcases hp with hp | hp
      · exact hn (e ▸ hp)
      · omega), h.same g hg hn]⟩
theorem Only.then_below {W w w' : World} {fs : Nat → Prop} (h : Only W w fs) (hb : Below w.heap.size w w') : Only W w' fs := h.trans (Only.of_below hb fs)
theorem Only.grown {W w w' : World} {fs : Nat → Prop} {row : Option Nat} (h : Only W w fs) (hg : w.grownBy w' row) (hr : ∀ k, row = some k → W.heap.size ≤ k) : Only W w' fs :=
  ⟨hg.os.trans h.os, hg.tape.trans h.tape, hg.output.trans h.output, Nat.le_trans h.size hg.size, fun g hlt hn => by
    rw [hg.block g (Nat.lt_of_lt_of_le hlt h.size) (fun e => by have := hr g e.symm; omega), h.same g hlt hn]⟩
/-- A world that has drawn, or not. -/
def Drawn (w wd : World) : Prop := wd = w ∨ wd = w.drew ∨ ∃ n, wd = w.drewN n
theorem Drawn.below {w wd : World} (h : Drawn w wd) : Below w.heap.size w wd := by
  rcases h with rfl | rfl | ⟨n, rfl⟩
  · exact up_refl _
  · exact up_drew (up_refl _)
  · exact up_drewN (up_refl _) _
theorem Drawn.heap {w wd : World} (h : Drawn w wd) : wd.heap = w.heap := by
  rcases h with rfl | rfl | ⟨n, rfl⟩ <;> rfl
theorem Drawn.only {w wd w' : World} {fs : Nat → Prop} (h : Drawn w wd) (ho : Only wd w' fs) : Only w w' fs := (Only.of_below h.below fs).trans ho
theorem Only.drew (w : World) (fs : Nat → Prop) : Only w w.drew fs := ⟨rfl, rfl, rfl, Nat.le_refl _, fun _ _ _ => rfl⟩
theorem Only.drewN (w : World) (n : Nat) (fs : Nat → Prop) : Only w (w.drewN n) fs := Only.of_below (below_drewN' (Below.refl _ _)) fs
theorem Blk.only {w w' : World} {b : Nat} {cs : Array Value} {t : TypeId} {fs : Nat → Prop} (h : Blk w b cs t) (ho : Only w w' fs) (hn : ¬ fs b) : Blk w' b cs t := by
  have := ho.same b h.lt hn
  unfold Blk at h ⊢
  rw [this, h]
theorem Blk.set' {w : World} {b : Nat} {cs : Array Value} {t : TypeId} (h : Blk w b cs t) (o : Nat) (u : Value) : Blk (w.setCell ⟨b, o, none⟩ u) b (cs.setIfInBounds o u) t := by
  unfold Blk at h ⊢
  rw [heap_setCell_same w b o cs t u h]
theorem Blk.apart' {w : World} {b : Nat} {cs : Array Value} {t : TypeId} (h : Blk w b cs t) (p : Addr) (hp : p.block ≠ b) (u : Value) : Blk (w.setCell p u) b cs t := by
  unfold Blk at h ⊢
  rw [heap_setCell_other w p b u (fun e => hp e.symm), h]
theorem Blk.grown' {w w' : World} {b : Nat} {cs : Array Value} {t : TypeId} {row : Option Nat} (h : Blk w b cs t) (hg : w.grownBy w' row) (hne : some b ≠ row) : Blk w' b cs t := by
  have := hg.block b h.lt hne
  unfold Blk at h ⊢
  rw [this, h]
theorem own_below {w w' : World} {base : Nat} {e : TypeId} {sz : Nat} {v : Value} {n : Nat} {xs : List Value} (h : w.ownsRow base e sz v n xs) (hb : Below w.heap.size w w') : w'.ownsRow base e sz v n xs := by
  obtain ⟨hl, h | ⟨g, cap, cur, rfl, hg, hh, r⟩⟩ := h
  · exact ⟨hl, .inl h⟩
  · refine ⟨hl, .inr ⟨g, cap, cur, rfl, hg, ?_, r⟩⟩
    rw [hb.block g ?_, hh]
    rcases Nat.lt_or_ge g w.heap.size with h' | h'
    · exact h'
    · simp [Array.getElem?_eq_none h'] at hh
theorem own_drewN {w : World} {base : Nat} {e : TypeId} {sz : Nat} {v : Value} {n : Nat} {xs : List Value} (h : w.ownsRow base e sz v n xs) (k : Nat) : (w.drewN k).ownsRow base e sz v n xs := h
theorem own_only {w w' : World} {base : Nat} {e : TypeId} {sz : Nat} {v : Value} {n : Nat} {xs : List Value} {fs : Nat → Prop} (h : w.ownsRow base e sz v n xs) (ho : Only w w' fs) (hf : ∀ g, fs g → g < base) : w'.ownsRow base e sz v n xs := by
  obtain ⟨hl, h | ⟨g, cap, cur, rfl, hg, hh, r⟩⟩ := h
  · exact ⟨hl, .inl h⟩
  · refine ⟨hl, .inr ⟨g, cap, cur, rfl, hg, ?_, r⟩⟩
    rw [ho.same g ?_ (fun e => by have := hf g e; omega), hh]
    rcases Nat.lt_or_ge g w.heap.size with h' | h'
    · exact h'
    · simp [Array.getElem?_eq_none h'] at hh
theorem Blk.four {w : World} {b : Nat} {x y z u : Value} {t : TypeId} (h : Blk w b #[x, y, z, u] t) : w.cell? ⟨b, 0, none⟩ = some x ∧ w.cell? ⟨b, 1, none⟩ = some y ∧ w.cell? ⟨b, 2, none⟩ = some z ∧ w.cell? ⟨b, 3, none⟩ = some u ∧ w.frozen? ⟨b, 3, none⟩ = false :=
  ⟨h.cell 0, h.cell 1, h.cell 2, h.cell 3, h.free 3⟩
theorem Blk.two {w : World} {b : Nat} {x y : Value} {t : TypeId} (h : Blk w b #[x, y] t) : w.cell? ⟨b, 0, none⟩ = some x ∧ w.cell? ⟨b, 1, none⟩ = some y ∧ w.frozen? ⟨b, 0, none⟩ = false ∧ w.frozen? ⟨b, 1, none⟩ = false :=
  ⟨h.cell 0, h.cell 1, h.free 0, h.free 1⟩
theorem Blk.set2 {w : World} {g : Nat} {x y a b : Value} {t : TypeId} (h : Blk w g #[x, y] t) : Blk ((w.setCell ⟨g, 0, none⟩ a).setCell ⟨g, 1, none⟩ b) g #[a, b] t := by
  unfold Blk at *
  simp [World.setCell, Array.getElem?_modify, h]
theorem Blk.three {w : World} {b : Nat} {x y z : Value} {t : TypeId} (h : Blk w b #[x, y, z] t) : w.cell? ⟨b, 1, none⟩ = some y ∧ w.cell? ⟨b, 2, none⟩ = some z ∧ w.frozen? ⟨b, 2, none⟩ = false :=
  ⟨h.cell 1, h.cell 2, h.free 2⟩
section
variable {P : Program}
/-- A result that lies in memory. -/
theorem results_c {fn : Func} {p : Tmp} {ty : TypeId} (h : fn.results = #[.cell p ty]) (tmps : Array Value) (w : World) (g : Nat) (t : TypeId) (cs : Array Value) (d : TypeDesc)
    (hp : tmps.getD p undef = .pointer (some ⟨g, 0, none⟩)) (hg : Blk w g cs t)
    (hu : P.underlying ty = some d) (hd : (match d with | .struct _ | .array _ _ => true | _ => false) = true) (hi : (P.info? ty).map (·.size) = some cs.size) :
    (results fn tmps).run P w = .ok (.agg cs) w := by
  have hp' : tmps[p]?.getD undef = .pointer (some ⟨g, 0, none⟩) := by simpa using hp
  simp [results, h, hp', asAddr, run_loadVar_row w g t ty cs (0, 0) d hg hu hd hi]
/-- Results of which the second, the last, lies in memory. -/
theorem results_tc {fn : Func} {t0 p : Tmp} {ty : TypeId} (h : fn.results = #[.tmp t0, .cell p ty]) (tmps : Array Value) (w : World) (g : Nat) (t : TypeId) (cs : Array Value) (d : TypeDesc)
    (hp : tmps.getD p undef = .pointer (some ⟨g, 0, none⟩)) (hg : Blk w g cs t)
    (hu : P.underlying ty = some d) (hd : (match d with | .struct _ | .array _ _ => true | _ => false) = true) (hi : (P.info? ty).map (·.size) = some cs.size) :
    (results fn tmps).run P w = .ok (.tuple #[tmps.getD t0 undef, .agg cs]) w := by
  have hp' : tmps[p]?.getD undef = .pointer (some ⟨g, 0, none⟩) := by simpa using hp
  simp [results, h, hp', asAddr, run_loadVar_row w g t ty cs (0, 0) d hg hu hd hi]
/-- Results of which the first lies in memory. -/
theorem results_ct' {fn : Func} {p u : Tmp} {ty : TypeId} (h : fn.results = #[.cell p ty, .tmp u]) (tmps : Array Value) (w : World) (g : Nat) (t : TypeId) (cs : Array Value) (d : TypeDesc)
    (hp : tmps.getD p undef = .pointer (some ⟨g, 0, none⟩)) (hg : Blk w g cs t)
    (hu : P.underlying ty = some d) (hd : (match d with | .struct _ | .array _ _ => true | _ => false) = true) (hi : (P.info? ty).map (·.size) = some cs.size) :
    (results fn tmps).run P w = .ok (.tuple #[.agg cs, tmps.getD u undef]) w := by
  have hp' : tmps[p]?.getD undef = .pointer (some ⟨g, 0, none⟩) := by simpa using hp
  simp [results, h, hp', asAddr, run_loadVar_row w g t ty cs (0, 0) d hg hu hd hi]
end
/-- 'out = append(out, x)': x lies in a new block of its own (wp_app, the block's number told apart). -/
theorem wp_app' {P : Program} {ops : Array Oper} {rest : List Oper} {o : Oper} {a : Act} {Q : Exit → Act → World → Prop} (w : World) (hgd : o.guard = none) (s x : Operand) (t : TypeId)
    (ho : o.op = .call { callee := .builtin .append, args := #[s, x], argTypes := #[t, t] })
    (base : Nat) (e : TypeId) (z : Value) (sz bytes : Nat) (ht : P.underlying t = some (.slice e)) (hi : (P.info? e).map (fun i => (i.zero, i.size, i.bytes)) = some (some z, sz, bytes))
    (hzs : z.cells.size = sz) (hsz : 0 < sz) (v : Value) (n : Nat) (xs : List Value) (hs : a.eval s = v) (hown : w.ownsRow base e sz v n xs)
    (cs : List Value) (hcs : cs.length = sz) (h1 : ∀ u ∈ cs, u.oneCell' = true) (g : Nat) (hx : a.eval x = .slice (some ⟨g, 0, none⟩) 1 1) (hg : g = w.heap.size)
    (hn : (n + 1) * bytes ≤ 140737488355328) (hn1 : n + 1 ≤ 140737488355328) (hbase : base ≤ w.heap.size)
    (h : ∀ v' w', w'.ownsRow base e sz v' (n + 1) (xs ++ cs) → (∀ w0, Below base w0 w → Below base w0 w') → (w.alloc (.cells cs.toArray e)).grownBy w' v.ownBlock → wpList P ops Q rest (a.put o.dst v') w') :
    wpList P ops Q (o :: rest) a (w.alloc (.cells cs.toArray e)) := by
  subst hg
  exact wp_app w hgd s x t ho base e z sz bytes ht hi hzs hsz v n xs hs hown cs hcs h1 hx hn hn1 hbase h
end Go.Proofs.Ytnbhmcbhpkjgcaa
