/- exps: a reader's names. -/
import Derived.Test.YtapllnnconpieaaDoorExps
set_option linter.unusedVariables false
namespace Go.Proofs.YtapllnnconpieaaDoor
open Go.RowKit

/-- A name of a function. -/
structure NamedD where
  name : List UInt8
  index : Int
def ncells (xs : List NamedD) : List Value := xs.flatMap fun x => [.string (S x.name), .int .i64 x.index]
theorem ncells_snoc (xs : List NamedD) (x : NamedD) : ncells (xs ++ [x]) = ncells xs ++ [.string (S x.name), .int .i64 x.index] := by simp [ncells]
/-- Whether a text is not behind another one. -/
def leS (a b : List UInt8) : Bool := Op.bytesLess a b || a == b
def nmT (l : List UInt8) (tx : Int) (i : Nat) : Option (List UInt8) := textF l (numAt l (tx + 4 * i) 4) 64
def nmV (l : List UInt8) (tx ix : Int) (i : Nat) : NamedD := ⟨(nmT l tx i).getD [], numAt l (ix + 2 * i) 2⟩
def nmLast (l : List UInt8) (tx : Int) : Nat → List UInt8
  | 0 => []
  | i + 1 => (nmT l tx i).getD []
def nmBad (l : List UInt8) (tx ix : Int) (nf i : Nat) : Bool :=
  !(nmT l tx i).isSome || !symOkF ((nmT l tx i).getD []) || leS ((nmT l tx i).getD []) (nmLast l tx i) || decide (nf ≤ numAt l (ix + 2 * i) 2)
def nmBads (l : List UInt8) (tx ix : Int) (nf : Nat) : Nat → Bool
  | 0 => false
  | i + 1 => nmBads l tx ix nf i || nmBad l tx ix nf i
def nmVs (l : List UInt8) (tx ix : Int) : Nat → List NamedD
  | 0 => []
  | i + 1 => nmVs l tx ix i ++ [nmV l tx ix i]
theorem nmVs_length (l : List UInt8) (tx ix : Int) : ∀ n, (nmVs l tx ix n).length = n
  | 0 => rfl
  | n + 1 => by simp [nmVs, nmVs_length l tx ix n]

theorem infoNamed : (Tryd.prog.info? 57).map (fun i => (i.zero, i.size, i.bytes)) = some (some (.agg #[.string ⟨#[]⟩, .int .i64 0]), 2, 24) := by kernel_rfl
theorem names_step {w wr w2 : World} {N rp ep j : Nat} (hN : w.heap.size = N) (hrp : rp < N) (hep : ep < N) (hne : rp ≠ ep) {r0 r1 r2 x0 x1 nv v' : Value} {b0 X : Bool} {T1 T2 e : TypeId} {sz : Nat} {cs cs' : List Value} {o : Obj}
    (hb : Blk wr rp #[r0, r1, r2, .bool b0] T1) (he : Blk wr ep #[x0, x1, nv] T2) (ho : wr.ownsRow N e sz nv j cs) (hon : Only w wr (fun g => g = rp ∨ g = ep))
    (hg : ((wr.setCell ⟨rp, 3, none⟩ (.bool X)).alloc o).grownBy w2 nv.ownBlock) (hown : w2.ownsRow N e sz v' (j + 1) cs') :
    Blk w2 ep #[x0, x1, nv] T2 ∧ Blk (w2.setCell ⟨ep, 2, none⟩ v') rp #[r0, r1, r2, .bool X] T1 ∧ Blk (w2.setCell ⟨ep, 2, none⟩ v') ep #[x0, x1, v'] T2 ∧ (w2.setCell ⟨ep, 2, none⟩ v').ownsRow N e sz v' (j + 1) cs' ∧
      Only w (w2.setCell ⟨ep, 2, none⟩ v') (fun g => g = rp ∨ g = ep) := by
  have hlt : ∀ k, nv.ownBlock = some k → N ≤ k := fun k hk => (ho.lt k hk).1
  have h1 : Blk w2 rp #[r0, r1, r2, .bool X] T1 := ((hb.set' 3 (.bool X)).alloc o).grown' hg (fun e => by have := hlt rp e.symm; omega)
  have h2 : Blk w2 ep #[x0, x1, nv] T2 := ((he.apart' ⟨rp, 3, none⟩ hne (.bool X)).alloc o).grown' hg (fun e => by have := hlt ep e.symm; omega)
  refine ⟨h2, h1.apart' _ (fun e => hne e.symm) _, h2.set' 2 v', own_set hown (p := ⟨ep, 2, none⟩) hep _, ?_⟩
  exact (((hon.set (p := ⟨rp, 3, none⟩) (.inl (.inl rfl)) (.bool X)).then_below (up_alloc (up_refl _) o)).grown hg (fun k hk => by rw [hN]; exact hlt k hk)).set (.inl (.inr rfl)) _

set_option maxRecDepth 100000 in
set_option maxHeartbeats 8000000 in
theorem exps_names (w : World) (rp ep : Nat) (hne : rp ≠ ep) (A : Option Addr) (c : Nat) (l : List UInt8) (hr : ∀ w', Only w w' (fun g => g = rp ∨ g = ep) → Bs w' A c l) (dr ds : Int) (bad : Bool)
    (hb : Blk w rp #[.slice A l.length c, .int .i64 dr, .int .i64 ds, .bool bad] 84) (base : Int) (FA : Option Addr) (nf fc : Nat) (he : Blk w ep #[.int .i64 base, .slice FA nf fc, .slice none 0 0] 47)
    (hnf : nf ≤ 1000) (n : Nat) (hn : n ≤ 1000) (tx ix : Nat) (htx : tx < 4294967296) (hix : ix < 4294967296) :
    Calls Tryd.prog 41 #[.pointer (some ⟨rp, 0, none⟩), .pointer (some ⟨ep, 0, none⟩), .int .i64 n, .int .i64 tx, .int .i64 ix] w fun e w' =>
      e = .returned (.tuple #[]) ∧ ∃ nv, Blk w' rp #[.slice A l.length c, .int .i64 dr, .int .i64 ds, .bool (bad || nmBads l tx ix nf n)] 84 ∧ Blk w' ep #[.int .i64 base, .slice FA nf fc, nv] 47 ∧
        w'.ownsRow w.heap.size 57 2 nv n (ncells (nmVs l tx ix n)) ∧ Only w w' (fun g => g = rp ∨ g = ep) := by
  have hrp := hb.lt
  have hep := he.lt
  have HR := hid hr
  have HB := hid hb
  have HE := hid he
  have hne' : ep ≠ rp := fun e => hne e.symm
  obtain ⟨N, hN⟩ : ∃ N, w.heap.size = N := ⟨_, rfl⟩
  rw [hN] at hrp hep ⊢
  have HN := hid hN
  clear hr hb he hN
  go_enter Tryd.func41, Tryd.ntmps41
  go_wp2_with fail
  go_loopg [10, 19] n (fun k la i wr => ∃ (j : Nat) (nv : Value), i = .int .i64 j ∧ j + k = n ∧ la = .string (S (nmLast l tx j)) ∧ Blk wr rp #[.slice A l.length c, .int .i64 dr, .int .i64 ds, .bool (bad || nmBads l tx ix nf j)] 84 ∧
    Blk wr ep #[.int .i64 base, .slice FA nf fc, nv] 47 ∧ wr.ownsRow N 57 2 nv j (ncells (nmVs l tx ix j)) ∧ Only w wr (fun g => g = rp ∨ g = ep))
  case atStart => exact ⟨0, _, rfl, by omega, rfl, by simpa [nmBads] using HB.out, HE.out, World.ownsRow_nil _ _ _ _, Only.refl _ _⟩
  case round =>
    obtain ⟨j, nv, rfl, hj, rfl, hb, he, ho, hon⟩ := hrel
    have HBr := hid hb
    have HEr := hid he
    have HO := hid ho
    have HON := hid hon
    rcases gk with _ | k
    · have hjn : ((j : Int) < (n : Int)) = False := by simp; omega
      obtain rfl : j = n := by omega
      clear hb he ho hon
      go_wp2_with fail
      go_end0
      exact ⟨rfl, nv, HBr.out, HEr.out, HO.out, HON.out⟩
    · have hjn : ((j : Int) < (n : Int)) = True := by simp; omega
      obtain ⟨c0, c1, c2, c3, f3⟩ := hb.four
      obtain ⟨d1, d2, e2⟩ := he.three
      have HBs := hid (HR.out wr hon)
      have hmx := HBs.out.mx
      have hsz : N ≤ wr.heap.size := by have := hon.size; rw [HN.out] at this; exact this
      have hU := hid (fun w' (hr : Bs w' A c l) => le_U32 A c l ((tx : Int) + 4 * (j : Int)) w' hr)
      have hT := hid (fun w' (hr : Bs w' A c l) => le_Text A c l (numAt l ((tx : Int) + 4 * (j : Int)) 4) 64 w' hr (by omega))
      have hK := hid (fun w' (hr : Bs w' A c l) => le_U16 A c l ((ix : Int) + 2 * (j : Int)) w' hr)
      have htl := textF_most l (numAt l ((tx : Int) + 4 * (j : Int)) 4) 64
      have hSO := hid (fun w => fold_SymOk ((nmT l tx j).getD []) w (by unfold nmT; omega))
      have hla : (nmLast l tx (j + 1)) = (nmT l tx j).getD [] := rfl
      have hbd : nmBads l tx ix nf (j + 1) = (nmBads l tx ix nf j || (!(nmT l tx j).isSome || !symOkF ((nmT l tx j).getD []) || leS ((nmT l tx j).getD []) (nmLast l tx j) || decide (nf ≤ numAt l ((ix : Int) + 2 * (j : Int)) 2))) := rfl
      have hvs : nmVs l tx ix (j + 1) = nmVs l tx ix j ++ [⟨(nmT l tx j).getD [], numAt l ((ix : Int) + 2 * (j : Int)) 2⟩] := rfl
      have hT2 := hT.out
      unfold textV at hT2
      rw [show textF l (numAt l ((tx : Int) + 4 * (j : Int)) 4) 64 = nmT l tx j from rfl] at hT2
      have hk2 : numAt l ((ix : Int) + 2 * (j : Int)) 2 < 65536 := numAt_lt l _ 2
      have ha4 : numAt l ((tx : Int) + 4 * (j : Int)) 4 < 4294967296 := numAt_lt l _ 4
      obtain ⟨a4, ha⟩ : ∃ x, numAt l ((tx : Int) + 4 * (j : Int)) 4 = x := ⟨_, rfl⟩
      obtain ⟨k2, hk⟩ : ∃ x, numAt l ((ix : Int) + 2 * (j : Int)) 2 = x := ⟨_, rfl⟩
      obtain ⟨s, hs⟩ : ∃ x, (nmT l tx j).getD [] = x := ⟨_, rfl⟩
      obtain ⟨ok, hok⟩ : ∃ x, (nmT l tx j).isSome = x := ⟨_, rfl⟩
      obtain ⟨so, hso⟩ : ∃ x, symOkF s = x := ⟨_, rfl⟩
      obtain ⟨la, hlast⟩ : ∃ x, nmLast l tx j = x := ⟨_, rfl⟩
      obtain ⟨bj, hbj⟩ : ∃ x, (bad || nmBads l tx ix nf j) = x := ⟨_, rfl⟩
      obtain ⟨le, hle⟩ : ∃ x, leS s la = x := ⟨_, rfl⟩
      have hbd2 : (bad || nmBads l tx ix nf (j + 1)) = (bj || (!ok || !so || le || decide (nf ≤ k2))) := by
        rw [hbd, ← Bool.or_assoc, hbj, hs, hok, hso, hlast, hle, hk]
      rw [hs] at hla hvs
      rw [hk] at hvs
      rw [ha] at hT2 ha4
      rw [hk] at hk2
      have HU : Hid (∀ w', Bs w' A c l → Calls Tryd.prog 39 #[.slice A l.length c, .int .i64 ((tx : Int) + 4 * (j : Int))] w' fun e w'' => e = .returned (.tuple #[.int .i64 a4, .bool (inB l.length ((tx : Int) + 4 * (j : Int)) 4)]) ∧ w' = w'') := ha ▸ hU
      have HK : Hid (∀ w', Bs w' A c l → Calls Tryd.prog 60 #[.slice A l.length c, .int .i64 ((ix : Int) + 2 * (j : Int))] w' fun e w'' => e = .returned (.tuple #[.int .i64 k2, .bool (inB l.length ((ix : Int) + 2 * (j : Int)) 2)]) ∧ w' = w'') := hk ▸ hK
      rw [hs, hok] at hT2
      have HT := hid hT2
      have HSO : Hid (∀ w, Calls Tryd.prog 13 #[.string (S s)] w fun e w' => e = .returned (.bool so) ∧ w = w') := hid (fun w => by have h := hSO.out w; rw [hs, hso] at h; exact h)
      have hS1 := S_toList s
      have hS2 := S_toList la
      unfold leS at hle
      have HLA := hid hla
      have HVS := hid hvs
      have HBD := hid hbd2
      rw [hlast]
      rw [hbj] at c3 HBr
      clear hb he ho hon hU hT hK hT2 htl hSO hla hvs hbd hbd2 ha hk hs hok hso hlast hbj
      go_wp2_with fail
      refine (HU.out _ HBs.out).mono ?_
      rintro e w1 ⟨rfl, rfl⟩
      go_wp2_with fail
      refine (HT.out _ HBs.out).mono ?_
      rintro e w1 ⟨rfl, rfl⟩
      go_wp2_with fail
      refine (HK.out _ HBs.out).mono ?_
      rintro e w1 ⟨rfl, rfl⟩
      cases bj
      case true =>
        go_wp2_with (at_builtin; refine wp_app' (wr.setCell ⟨rp, 3, none⟩ (.bool true)) rfl _ _ 45 rfl N 57 (.agg #[.string ⟨#[]⟩, .int .i64 0]) 2 24 Tryd.underlying45 infoNamed rfl (by decide) nv j (ncells (nmVs l tx ix j)) (by rfl) (own_set HO.out (p := ⟨rp, 3, none⟩) hrp _) [.string (S s), .int .i64 k2] rfl (by simp [Value.oneCell']) wr.heap.size (by rfl) (by simp [World.setCell]) (by omega) (by omega) (by simp [World.setCell]; omega) ?_; intro v' w2 hown' hbel' hgr; clear hbel'; obtain ⟨A', c', rfl, -, -⟩ := own_row hown'; obtain ⟨q0, q1, q2, q3, q4⟩ := names_step HN.out hrp hep hne HBr.out HEr.out HO.out HON.out hgr hown'; obtain ⟨-, d3, e3⟩ := q0.three; have Q1 := hid q1; have Q2 := hid q2; have Q3 := hid q3; have Q4 := hid q4; clear q0 q1 q2 q3 q4 hgr hown')
        go_roundg k
        case measure => omega
        case rel => exact ⟨j + 1, _, by go_num, by omega, by rw [HLA.out], by rw [HBD.out]; exact Q1.out, Q2.out, by rw [HVS.out, ncells_snoc]; exact Q3.out, Q4.out⟩
      case false =>
        cases ok
        case false =>
          go_wp2_with (at_builtin; refine wp_app' (wr.setCell ⟨rp, 3, none⟩ (.bool true)) rfl _ _ 45 rfl N 57 (.agg #[.string ⟨#[]⟩, .int .i64 0]) 2 24 Tryd.underlying45 infoNamed rfl (by decide) nv j (ncells (nmVs l tx ix j)) (by rfl) (own_set HO.out (p := ⟨rp, 3, none⟩) hrp _) [.string (S s), .int .i64 k2] rfl (by simp [Value.oneCell']) wr.heap.size (by rfl) (by simp [World.setCell]) (by omega) (by omega) (by simp [World.setCell]; omega) ?_; intro v' w2 hown' hbel' hgr; clear hbel'; obtain ⟨A', c', rfl, -, -⟩ := own_row hown'; obtain ⟨q0, q1, q2, q3, q4⟩ := names_step HN.out hrp hep hne HBr.out HEr.out HO.out HON.out hgr hown'; obtain ⟨-, d3, e3⟩ := q0.three; have Q1 := hid q1; have Q2 := hid q2; have Q3 := hid q3; have Q4 := hid q4; clear q0 q1 q2 q3 q4 hgr hown')
          go_roundg k
          case measure => omega
          case rel => exact ⟨j + 1, _, by go_num, by omega, by rw [HLA.out], by rw [HBD.out]; exact Q1.out, Q2.out, by rw [HVS.out, ncells_snoc]; exact Q3.out, Q4.out⟩
        case true =>
          go_wp2_with fail
          refine (HSO.out _).mono ?_
          rintro e w1 ⟨rfl, rfl⟩
          cases so
          case false =>
            go_wp2_with (at_builtin; refine wp_app' (wr.setCell ⟨rp, 3, none⟩ (.bool true)) rfl _ _ 45 rfl N 57 (.agg #[.string ⟨#[]⟩, .int .i64 0]) 2 24 Tryd.underlying45 infoNamed rfl (by decide) nv j (ncells (nmVs l tx ix j)) (by rfl) (own_set HO.out (p := ⟨rp, 3, none⟩) hrp _) [.string (S s), .int .i64 k2] rfl (by simp [Value.oneCell']) wr.heap.size (by rfl) (by simp [World.setCell]) (by omega) (by omega) (by simp [World.setCell]; omega) ?_; intro v' w2 hown' hbel' hgr; clear hbel'; obtain ⟨A', c', rfl, -, -⟩ := own_row hown'; obtain ⟨q0, q1, q2, q3, q4⟩ := names_step HN.out hrp hep hne HBr.out HEr.out HO.out HON.out hgr hown'; obtain ⟨-, d3, e3⟩ := q0.three; have Q1 := hid q1; have Q2 := hid q2; have Q3 := hid q3; have Q4 := hid q4; clear q0 q1 q2 q3 q4 hgr hown')
            go_roundg k
            case measure => omega
            case rel => exact ⟨j + 1, _, by go_num, by omega, by rw [HLA.out], by rw [HBD.out]; exact Q1.out, Q2.out, by rw [HVS.out, ncells_snoc]; exact Q3.out, Q4.out⟩
          case true =>
            cases le
            case true =>
              go_wp2_with (at_builtin; refine wp_app' (wr.setCell ⟨rp, 3, none⟩ (.bool true)) rfl _ _ 45 rfl N 57 (.agg #[.string ⟨#[]⟩, .int .i64 0]) 2 24 Tryd.underlying45 infoNamed rfl (by decide) nv j (ncells (nmVs l tx ix j)) (by rfl) (own_set HO.out (p := ⟨rp, 3, none⟩) hrp _) [.string (S s), .int .i64 k2] rfl (by simp [Value.oneCell']) wr.heap.size (by rfl) (by simp [World.setCell]) (by omega) (by omega) (by simp [World.setCell]; omega) ?_; intro v' w2 hown' hbel' hgr; clear hbel'; obtain ⟨A', c', rfl, -, -⟩ := own_row hown'; obtain ⟨q0, q1, q2, q3, q4⟩ := names_step HN.out hrp hep hne HBr.out HEr.out HO.out HON.out hgr hown'; obtain ⟨-, d3, e3⟩ := q0.three; have Q1 := hid q1; have Q2 := hid q2; have Q3 := hid q3; have Q4 := hid q4; clear q0 q1 q2 q3 q4 hgr hown')
              go_roundg k
              case measure => omega
              case rel => exact ⟨j + 1, _, by go_num, by omega, by rw [HLA.out], by rw [HBD.out]; exact Q1.out, Q2.out, by rw [HVS.out, ncells_snoc]; exact Q3.out, Q4.out⟩
            case false =>
              by_cases hkn : nf ≤ k2
              · have hkd : decide (nf ≤ k2) = true := decide_eq_true hkn
                rw [hkd] at HBD
                clear hkd
                go_wp2_with (at_builtin; refine wp_app' (wr.setCell ⟨rp, 3, none⟩ (.bool true)) rfl _ _ 45 rfl N 57 (.agg #[.string ⟨#[]⟩, .int .i64 0]) 2 24 Tryd.underlying45 infoNamed rfl (by decide) nv j (ncells (nmVs l tx ix j)) (by rfl) (own_set HO.out (p := ⟨rp, 3, none⟩) hrp _) [.string (S s), .int .i64 k2] rfl (by simp [Value.oneCell']) wr.heap.size (by rfl) (by simp [World.setCell]) (by omega) (by omega) (by simp [World.setCell]; omega) ?_; intro v' w2 hown' hbel' hgr; clear hbel'; obtain ⟨A', c', rfl, -, -⟩ := own_row hown'; obtain ⟨q0, q1, q2, q3, q4⟩ := names_step HN.out hrp hep hne HBr.out HEr.out HO.out HON.out hgr hown'; obtain ⟨-, d3, e3⟩ := q0.three; have Q1 := hid q1; have Q2 := hid q2; have Q3 := hid q3; have Q4 := hid q4; clear q0 q1 q2 q3 q4 hgr hown')
                go_roundg k
                case measure => omega
                case rel => exact ⟨j + 1, _, by go_num, by omega, by rw [HLA.out], by rw [HBD.out]; exact Q1.out, Q2.out, by rw [HVS.out, ncells_snoc]; exact Q3.out, Q4.out⟩
              · have hkd : decide (nf ≤ k2) = false := decide_eq_false hkn
                rw [hkd] at HBD
                clear hkd
                go_wp2_with (at_builtin; refine wp_app' (wr.setCell ⟨rp, 3, none⟩ (.bool false)) rfl _ _ 45 rfl N 57 (.agg #[.string ⟨#[]⟩, .int .i64 0]) 2 24 Tryd.underlying45 infoNamed rfl (by decide) nv j (ncells (nmVs l tx ix j)) (by rfl) (own_set HO.out (p := ⟨rp, 3, none⟩) hrp _) [.string (S s), .int .i64 k2] rfl (by simp [Value.oneCell']) wr.heap.size (by rfl) (by simp [World.setCell]) (by omega) (by omega) (by simp [World.setCell]; omega) ?_; intro v' w2 hown' hbel' hgr; clear hbel'; obtain ⟨A', c', rfl, -, -⟩ := own_row hown'; obtain ⟨q0, q1, q2, q3, q4⟩ := names_step HN.out hrp hep hne HBr.out HEr.out HO.out HON.out hgr hown'; obtain ⟨-, d3, e3⟩ := q0.three; have Q1 := hid q1; have Q2 := hid q2; have Q3 := hid q3; have Q4 := hid q4; clear q0 q1 q2 q3 q4 hgr hown')
                go_roundg k
                case measure => omega
                case rel => exact ⟨j + 1, _, by go_num, by omega, by rw [HLA.out], by rw [HBD.out]; exact Q1.out, Q2.out, by rw [HVS.out, ncells_snoc]; exact Q3.out, Q4.out⟩
end Go.Proofs.YtapllnnconpieaaDoor
