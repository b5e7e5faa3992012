/- hdr.Parse, walked. -/
import Derived.Test.YtajcihcbgmpdjaaHead
import Derived.Test.YtajcihcbgmpdjaaSects
import Derived.Deep.DrawnRows
namespace Go.Proofs.Ytajcihcbgmpdjaa
open Go.RowKit

attribute [local go_sem ↓] Go.wp_at_zero Go.wp_at_succ

attribute [-go_sem] storeVar
theorem storeVar_reader : type_of% (storeVar.eq_1 63) := storeVar.eq_1 _
theorem storeVar_dir : type_of% (storeVar.eq_1 28) := storeVar.eq_1 _

/-- A head is stored whole into a block of noughts. -/
theorem run_storeHead {W : World} {n : Nat} {cells : Array Value} (hB : Blk W n #[.int .u64 0, .int .i64 0, .int .i64 0, .int .i64 0, .int .i64 0, .int .i64 0, .int .i64 0, .int .i64 0, .int .i64 0, .int .i64 0, .int .i64 0, .int .i64 0, .int .i64 0, .int .i64 0, .int .i64 0, .int .i64 0, .int .i64 0, .int .i64 0, .int .i64 0, .int .i64 0, .int .i64 0, .int .i64 0, .int .i64 0, .int .i64 0, .int .i64 0, .int .i64 0, .int .i64 0, .int .i64 0, .int .i64 0, .int .i64 0, .int .i64 0, .int .i64 0, .int .i64 0, .int .i64 0, .int .i64 0, .int .i64 0, .int .i64 0, .int .i64 0, .slice none 0 0] 32) (hs : cells.size = 39) (h1 : cells.all (·.oneCell') = true) :
    (storeVar 32 ⟨n, 0, none⟩ (.agg cells)).run Try.prog W = .ok () (W.setRow n cells) :=
  run_storeVar_row W n 32 32 _ cells hB (by rw [headInfo, hs]) hs.symm h1
theorem head_one (b s c e z h : Int) : (#[.int .u64 b, .int .i64 s, .int .i64 c, .int .i64 e, .int .i64 z, .int .i64 h, .int .i64 0, .int .i64 0, .int .i64 0, .int .i64 0, .int .i64 0, .int .i64 0, .int .i64 0, .int .i64 0, .int .i64 0, .int .i64 0, .int .i64 0, .int .i64 0, .int .i64 0, .int .i64 0, .int .i64 0, .int .i64 0, .int .i64 0, .int .i64 0, .int .i64 0, .int .i64 0, .int .i64 0, .int .i64 0, .int .i64 0, .int .i64 0, .int .i64 0, .int .i64 0, .int .i64 0, .int .i64 0, .int .i64 0, .int .i64 0, .int .i64 0, .int .i64 0, .slice none 0 0] : Array Value).all (·.oneCell') = true := headV_one b s c e z h (fun _ => 0) (.slice none 0 0) rfl
theorem run_storeHead0 (w : World) (n : Nat) (b s c e z h : Int) (hn : n = w.heap.size) : (storeVar 32 ⟨n, 0, none⟩ (.agg #[.int .u64 b, .int .i64 s, .int .i64 c, .int .i64 e, .int .i64 z, .int .i64 h, .int .i64 0, .int .i64 0, .int .i64 0, .int .i64 0, .int .i64 0, .int .i64 0, .int .i64 0, .int .i64 0, .int .i64 0, .int .i64 0, .int .i64 0, .int .i64 0, .int .i64 0, .int .i64 0, .int .i64 0, .int .i64 0, .int .i64 0, .int .i64 0, .int .i64 0, .int .i64 0, .int .i64 0, .int .i64 0, .int .i64 0, .int .i64 0, .int .i64 0, .int .i64 0, .int .i64 0, .int .i64 0, .int .i64 0, .int .i64 0, .int .i64 0, .int .i64 0, .slice none 0 0])).run Try.prog (w.alloc (.cells #[.int .u64 0, .int .i64 0, .int .i64 0, .int .i64 0, .int .i64 0, .int .i64 0, .int .i64 0, .int .i64 0, .int .i64 0, .int .i64 0, .int .i64 0, .int .i64 0, .int .i64 0, .int .i64 0, .int .i64 0, .int .i64 0, .int .i64 0, .int .i64 0, .int .i64 0, .int .i64 0, .int .i64 0, .int .i64 0, .int .i64 0, .int .i64 0, .int .i64 0, .int .i64 0, .int .i64 0, .int .i64 0, .int .i64 0, .int .i64 0, .int .i64 0, .int .i64 0, .int .i64 0, .int .i64 0, .int .i64 0, .int .i64 0, .int .i64 0, .int .i64 0, .slice none 0 0] 32)) = .ok () ((w.alloc (.cells #[.int .u64 0, .int .i64 0, .int .i64 0, .int .i64 0, .int .i64 0, .int .i64 0, .int .i64 0, .int .i64 0, .int .i64 0, .int .i64 0, .int .i64 0, .int .i64 0, .int .i64 0, .int .i64 0, .int .i64 0, .int .i64 0, .int .i64 0, .int .i64 0, .int .i64 0, .int .i64 0, .int .i64 0, .int .i64 0, .int .i64 0, .int .i64 0, .int .i64 0, .int .i64 0, .int .i64 0, .int .i64 0, .int .i64 0, .int .i64 0, .int .i64 0, .int .i64 0, .int .i64 0, .int .i64 0, .int .i64 0, .int .i64 0, .int .i64 0, .int .i64 0, .slice none 0 0] 32)).setRow n #[.int .u64 b, .int .i64 s, .int .i64 c, .int .i64 e, .int .i64 z, .int .i64 h, .int .i64 0, .int .i64 0, .int .i64 0, .int .i64 0, .int .i64 0, .int .i64 0, .int .i64 0, .int .i64 0, .int .i64 0, .int .i64 0, .int .i64 0, .int .i64 0, .int .i64 0, .int .i64 0, .int .i64 0, .int .i64 0, .int .i64 0, .int .i64 0, .int .i64 0, .int .i64 0, .int .i64 0, .int .i64 0, .int .i64 0, .int .i64 0, .int .i64 0, .int .i64 0, .int .i64 0, .int .i64 0, .int .i64 0, .int .i64 0, .int .i64 0, .int .i64 0, .slice none 0 0]) := by
  subst hn
  exact run_storeHead (Blk.new _ _ _) rfl (head_one b s c e z h)
theorem run_storeHead1 (w : World) (n : Nat) (b s c e z h : Int) (o1 : Obj) (hn : n = w.heap.size) : (storeVar 32 ⟨n, 0, none⟩ (.agg #[.int .u64 b, .int .i64 s, .int .i64 c, .int .i64 e, .int .i64 z, .int .i64 h, .int .i64 0, .int .i64 0, .int .i64 0, .int .i64 0, .int .i64 0, .int .i64 0, .int .i64 0, .int .i64 0, .int .i64 0, .int .i64 0, .int .i64 0, .int .i64 0, .int .i64 0, .int .i64 0, .int .i64 0, .int .i64 0, .int .i64 0, .int .i64 0, .int .i64 0, .int .i64 0, .int .i64 0, .int .i64 0, .int .i64 0, .int .i64 0, .int .i64 0, .int .i64 0, .int .i64 0, .int .i64 0, .int .i64 0, .int .i64 0, .int .i64 0, .int .i64 0, .slice none 0 0])).run Try.prog ((w.alloc (.cells #[.int .u64 0, .int .i64 0, .int .i64 0, .int .i64 0, .int .i64 0, .int .i64 0, .int .i64 0, .int .i64 0, .int .i64 0, .int .i64 0, .int .i64 0, .int .i64 0, .int .i64 0, .int .i64 0, .int .i64 0, .int .i64 0, .int .i64 0, .int .i64 0, .int .i64 0, .int .i64 0, .int .i64 0, .int .i64 0, .int .i64 0, .int .i64 0, .int .i64 0, .int .i64 0, .int .i64 0, .int .i64 0, .int .i64 0, .int .i64 0, .int .i64 0, .int .i64 0, .int .i64 0, .int .i64 0, .int .i64 0, .int .i64 0, .int .i64 0, .int .i64 0, .slice none 0 0] 32)).alloc o1) = .ok () (((w.alloc (.cells #[.int .u64 0, .int .i64 0, .int .i64 0, .int .i64 0, .int .i64 0, .int .i64 0, .int .i64 0, .int .i64 0, .int .i64 0, .int .i64 0, .int .i64 0, .int .i64 0, .int .i64 0, .int .i64 0, .int .i64 0, .int .i64 0, .int .i64 0, .int .i64 0, .int .i64 0, .int .i64 0, .int .i64 0, .int .i64 0, .int .i64 0, .int .i64 0, .int .i64 0, .int .i64 0, .int .i64 0, .int .i64 0, .int .i64 0, .int .i64 0, .int .i64 0, .int .i64 0, .int .i64 0, .int .i64 0, .int .i64 0, .int .i64 0, .int .i64 0, .int .i64 0, .slice none 0 0] 32)).alloc o1).setRow n #[.int .u64 b, .int .i64 s, .int .i64 c, .int .i64 e, .int .i64 z, .int .i64 h, .int .i64 0, .int .i64 0, .int .i64 0, .int .i64 0, .int .i64 0, .int .i64 0, .int .i64 0, .int .i64 0, .int .i64 0, .int .i64 0, .int .i64 0, .int .i64 0, .int .i64 0, .int .i64 0, .int .i64 0, .int .i64 0, .int .i64 0, .int .i64 0, .int .i64 0, .int .i64 0, .int .i64 0, .int .i64 0, .int .i64 0, .int .i64 0, .int .i64 0, .int .i64 0, .int .i64 0, .int .i64 0, .int .i64 0, .int .i64 0, .int .i64 0, .int .i64 0, .slice none 0 0]) := by
  subst hn
  exact run_storeHead ((Blk.new _ _ _).alloc _) rfl (head_one b s c e z h)
theorem run_storeHead2 (w : World) (n : Nat) (b s c e z h : Int) (o1 o2 : Obj) (hn : n = w.heap.size) : (storeVar 32 ⟨n, 0, none⟩ (.agg #[.int .u64 b, .int .i64 s, .int .i64 c, .int .i64 e, .int .i64 z, .int .i64 h, .int .i64 0, .int .i64 0, .int .i64 0, .int .i64 0, .int .i64 0, .int .i64 0, .int .i64 0, .int .i64 0, .int .i64 0, .int .i64 0, .int .i64 0, .int .i64 0, .int .i64 0, .int .i64 0, .int .i64 0, .int .i64 0, .int .i64 0, .int .i64 0, .int .i64 0, .int .i64 0, .int .i64 0, .int .i64 0, .int .i64 0, .int .i64 0, .int .i64 0, .int .i64 0, .int .i64 0, .int .i64 0, .int .i64 0, .int .i64 0, .int .i64 0, .int .i64 0, .slice none 0 0])).run Try.prog (((w.alloc (.cells #[.int .u64 0, .int .i64 0, .int .i64 0, .int .i64 0, .int .i64 0, .int .i64 0, .int .i64 0, .int .i64 0, .int .i64 0, .int .i64 0, .int .i64 0, .int .i64 0, .int .i64 0, .int .i64 0, .int .i64 0, .int .i64 0, .int .i64 0, .int .i64 0, .int .i64 0, .int .i64 0, .int .i64 0, .int .i64 0, .int .i64 0, .int .i64 0, .int .i64 0, .int .i64 0, .int .i64 0, .int .i64 0, .int .i64 0, .int .i64 0, .int .i64 0, .int .i64 0, .int .i64 0, .int .i64 0, .int .i64 0, .int .i64 0, .int .i64 0, .int .i64 0, .slice none 0 0] 32)).alloc o1).alloc o2) = .ok () ((((w.alloc (.cells #[.int .u64 0, .int .i64 0, .int .i64 0, .int .i64 0, .int .i64 0, .int .i64 0, .int .i64 0, .int .i64 0, .int .i64 0, .int .i64 0, .int .i64 0, .int .i64 0, .int .i64 0, .int .i64 0, .int .i64 0, .int .i64 0, .int .i64 0, .int .i64 0, .int .i64 0, .int .i64 0, .int .i64 0, .int .i64 0, .int .i64 0, .int .i64 0, .int .i64 0, .int .i64 0, .int .i64 0, .int .i64 0, .int .i64 0, .int .i64 0, .int .i64 0, .int .i64 0, .int .i64 0, .int .i64 0, .int .i64 0, .int .i64 0, .int .i64 0, .int .i64 0, .slice none 0 0] 32)).alloc o1).alloc o2).setRow n #[.int .u64 b, .int .i64 s, .int .i64 c, .int .i64 e, .int .i64 z, .int .i64 h, .int .i64 0, .int .i64 0, .int .i64 0, .int .i64 0, .int .i64 0, .int .i64 0, .int .i64 0, .int .i64 0, .int .i64 0, .int .i64 0, .int .i64 0, .int .i64 0, .int .i64 0, .int .i64 0, .int .i64 0, .int .i64 0, .int .i64 0, .int .i64 0, .int .i64 0, .int .i64 0, .int .i64 0, .int .i64 0, .int .i64 0, .int .i64 0, .int .i64 0, .int .i64 0, .int .i64 0, .int .i64 0, .int .i64 0, .int .i64 0, .int .i64 0, .int .i64 0, .slice none 0 0]) := by
  subst hn
  exact run_storeHead (((Blk.new _ _ _).alloc _).alloc _) rfl (head_one b s c e z h)
theorem run_storeHead3 (w : World) (n : Nat) (b s c e z h : Int) (o1 o2 o3 : Obj) (hn : n = w.heap.size) : (storeVar 32 ⟨n, 0, none⟩ (.agg #[.int .u64 b, .int .i64 s, .int .i64 c, .int .i64 e, .int .i64 z, .int .i64 h, .int .i64 0, .int .i64 0, .int .i64 0, .int .i64 0, .int .i64 0, .int .i64 0, .int .i64 0, .int .i64 0, .int .i64 0, .int .i64 0, .int .i64 0, .int .i64 0, .int .i64 0, .int .i64 0, .int .i64 0, .int .i64 0, .int .i64 0, .int .i64 0, .int .i64 0, .int .i64 0, .int .i64 0, .int .i64 0, .int .i64 0, .int .i64 0, .int .i64 0, .int .i64 0, .int .i64 0, .int .i64 0, .int .i64 0, .int .i64 0, .int .i64 0, .int .i64 0, .slice none 0 0])).run Try.prog ((((w.alloc (.cells #[.int .u64 0, .int .i64 0, .int .i64 0, .int .i64 0, .int .i64 0, .int .i64 0, .int .i64 0, .int .i64 0, .int .i64 0, .int .i64 0, .int .i64 0, .int .i64 0, .int .i64 0, .int .i64 0, .int .i64 0, .int .i64 0, .int .i64 0, .int .i64 0, .int .i64 0, .int .i64 0, .int .i64 0, .int .i64 0, .int .i64 0, .int .i64 0, .int .i64 0, .int .i64 0, .int .i64 0, .int .i64 0, .int .i64 0, .int .i64 0, .int .i64 0, .int .i64 0, .int .i64 0, .int .i64 0, .int .i64 0, .int .i64 0, .int .i64 0, .int .i64 0, .slice none 0 0] 32)).alloc o1).alloc o2).alloc o3) = .ok () (((((w.alloc (.cells #[.int .u64 0, .int .i64 0, .int .i64 0, .int .i64 0, .int .i64 0, .int .i64 0, .int .i64 0, .int .i64 0, .int .i64 0, .int .i64 0, .int .i64 0, .int .i64 0, .int .i64 0, .int .i64 0, .int .i64 0, .int .i64 0, .int .i64 0, .int .i64 0, .int .i64 0, .int .i64 0, .int .i64 0, .int .i64 0, .int .i64 0, .int .i64 0, .int .i64 0, .int .i64 0, .int .i64 0, .int .i64 0, .int .i64 0, .int .i64 0, .int .i64 0, .int .i64 0, .int .i64 0, .int .i64 0, .int .i64 0, .int .i64 0, .int .i64 0, .int .i64 0, .slice none 0 0] 32)).alloc o1).alloc o2).alloc o3).setRow n #[.int .u64 b, .int .i64 s, .int .i64 c, .int .i64 e, .int .i64 z, .int .i64 h, .int .i64 0, .int .i64 0, .int .i64 0, .int .i64 0, .int .i64 0, .int .i64 0, .int .i64 0, .int .i64 0, .int .i64 0, .int .i64 0, .int .i64 0, .int .i64 0, .int .i64 0, .int .i64 0, .int .i64 0, .int .i64 0, .int .i64 0, .int .i64 0, .int .i64 0, .int .i64 0, .int .i64 0, .int .i64 0, .int .i64 0, .int .i64 0, .int .i64 0, .int .i64 0, .int .i64 0, .int .i64 0, .int .i64 0, .int .i64 0, .int .i64 0, .int .i64 0, .slice none 0 0]) := by
  subst hn
  exact run_storeHead ((((Blk.new _ _ _).alloc _).alloc _).alloc _) rfl (head_one b s c e z h)
theorem run_storeHead4 (w : World) (n : Nat) (b s c e z h : Int) (o1 o2 o3 o4 : Obj) (hn : n = w.heap.size) : (storeVar 32 ⟨n, 0, none⟩ (.agg #[.int .u64 b, .int .i64 s, .int .i64 c, .int .i64 e, .int .i64 z, .int .i64 h, .int .i64 0, .int .i64 0, .int .i64 0, .int .i64 0, .int .i64 0, .int .i64 0, .int .i64 0, .int .i64 0, .int .i64 0, .int .i64 0, .int .i64 0, .int .i64 0, .int .i64 0, .int .i64 0, .int .i64 0, .int .i64 0, .int .i64 0, .int .i64 0, .int .i64 0, .int .i64 0, .int .i64 0, .int .i64 0, .int .i64 0, .int .i64 0, .int .i64 0, .int .i64 0, .int .i64 0, .int .i64 0, .int .i64 0, .int .i64 0, .int .i64 0, .int .i64 0, .slice none 0 0])).run Try.prog (((((w.alloc (.cells #[.int .u64 0, .int .i64 0, .int .i64 0, .int .i64 0, .int .i64 0, .int .i64 0, .int .i64 0, .int .i64 0, .int .i64 0, .int .i64 0, .int .i64 0, .int .i64 0, .int .i64 0, .int .i64 0, .int .i64 0, .int .i64 0, .int .i64 0, .int .i64 0, .int .i64 0, .int .i64 0, .int .i64 0, .int .i64 0, .int .i64 0, .int .i64 0, .int .i64 0, .int .i64 0, .int .i64 0, .int .i64 0, .int .i64 0, .int .i64 0, .int .i64 0, .int .i64 0, .int .i64 0, .int .i64 0, .int .i64 0, .int .i64 0, .int .i64 0, .int .i64 0, .slice none 0 0] 32)).alloc o1).alloc o2).alloc o3).alloc o4) = .ok () ((((((w.alloc (.cells #[.int .u64 0, .int .i64 0, .int .i64 0, .int .i64 0, .int .i64 0, .int .i64 0, .int .i64 0, .int .i64 0, .int .i64 0, .int .i64 0, .int .i64 0, .int .i64 0, .int .i64 0, .int .i64 0, .int .i64 0, .int .i64 0, .int .i64 0, .int .i64 0, .int .i64 0, .int .i64 0, .int .i64 0, .int .i64 0, .int .i64 0, .int .i64 0, .int .i64 0, .int .i64 0, .int .i64 0, .int .i64 0, .int .i64 0, .int .i64 0, .int .i64 0, .int .i64 0, .int .i64 0, .int .i64 0, .int .i64 0, .int .i64 0, .int .i64 0, .int .i64 0, .slice none 0 0] 32)).alloc o1).alloc o2).alloc o3).alloc o4).setRow n #[.int .u64 b, .int .i64 s, .int .i64 c, .int .i64 e, .int .i64 z, .int .i64 h, .int .i64 0, .int .i64 0, .int .i64 0, .int .i64 0, .int .i64 0, .int .i64 0, .int .i64 0, .int .i64 0, .int .i64 0, .int .i64 0, .int .i64 0, .int .i64 0, .int .i64 0, .int .i64 0, .int .i64 0, .int .i64 0, .int .i64 0, .int .i64 0, .int .i64 0, .int .i64 0, .int .i64 0, .int .i64 0, .int .i64 0, .int .i64 0, .int .i64 0, .int .i64 0, .int .i64 0, .int .i64 0, .int .i64 0, .int .i64 0, .int .i64 0, .int .i64 0, .slice none 0 0]) := by
  subst hn
  exact run_storeHead (((((Blk.new _ _ _).alloc _).alloc _).alloc _).alloc _) rfl (head_one b s c e z h)
theorem run_storeHead5 (w : World) (n : Nat) (b s c e z h : Int) (o1 o2 o3 o4 o5 : Obj) (hn : n = w.heap.size) : (storeVar 32 ⟨n, 0, none⟩ (.agg #[.int .u64 b, .int .i64 s, .int .i64 c, .int .i64 e, .int .i64 z, .int .i64 h, .int .i64 0, .int .i64 0, .int .i64 0, .int .i64 0, .int .i64 0, .int .i64 0, .int .i64 0, .int .i64 0, .int .i64 0, .int .i64 0, .int .i64 0, .int .i64 0, .int .i64 0, .int .i64 0, .int .i64 0, .int .i64 0, .int .i64 0, .int .i64 0, .int .i64 0, .int .i64 0, .int .i64 0, .int .i64 0, .int .i64 0, .int .i64 0, .int .i64 0, .int .i64 0, .int .i64 0, .int .i64 0, .int .i64 0, .int .i64 0, .int .i64 0, .int .i64 0, .slice none 0 0])).run Try.prog ((((((w.alloc (.cells #[.int .u64 0, .int .i64 0, .int .i64 0, .int .i64 0, .int .i64 0, .int .i64 0, .int .i64 0, .int .i64 0, .int .i64 0, .int .i64 0, .int .i64 0, .int .i64 0, .int .i64 0, .int .i64 0, .int .i64 0, .int .i64 0, .int .i64 0, .int .i64 0, .int .i64 0, .int .i64 0, .int .i64 0, .int .i64 0, .int .i64 0, .int .i64 0, .int .i64 0, .int .i64 0, .int .i64 0, .int .i64 0, .int .i64 0, .int .i64 0, .int .i64 0, .int .i64 0, .int .i64 0, .int .i64 0, .int .i64 0, .int .i64 0, .int .i64 0, .int .i64 0, .slice none 0 0] 32)).alloc o1).alloc o2).alloc o3).alloc o4).alloc o5) = .ok () (((((((w.alloc (.cells #[.int .u64 0, .int .i64 0, .int .i64 0, .int .i64 0, .int .i64 0, .int .i64 0, .int .i64 0, .int .i64 0, .int .i64 0, .int .i64 0, .int .i64 0, .int .i64 0, .int .i64 0, .int .i64 0, .int .i64 0, .int .i64 0, .int .i64 0, .int .i64 0, .int .i64 0, .int .i64 0, .int .i64 0, .int .i64 0, .int .i64 0, .int .i64 0, .int .i64 0, .int .i64 0, .int .i64 0, .int .i64 0, .int .i64 0, .int .i64 0, .int .i64 0, .int .i64 0, .int .i64 0, .int .i64 0, .int .i64 0, .int .i64 0, .int .i64 0, .int .i64 0, .slice none 0 0] 32)).alloc o1).alloc o2).alloc o3).alloc o4).alloc o5).setRow n #[.int .u64 b, .int .i64 s, .int .i64 c, .int .i64 e, .int .i64 z, .int .i64 h, .int .i64 0, .int .i64 0, .int .i64 0, .int .i64 0, .int .i64 0, .int .i64 0, .int .i64 0, .int .i64 0, .int .i64 0, .int .i64 0, .int .i64 0, .int .i64 0, .int .i64 0, .int .i64 0, .int .i64 0, .int .i64 0, .int .i64 0, .int .i64 0, .int .i64 0, .int .i64 0, .int .i64 0, .int .i64 0, .int .i64 0, .int .i64 0, .int .i64 0, .int .i64 0, .int .i64 0, .int .i64 0, .int .i64 0, .int .i64 0, .int .i64 0, .int .i64 0, .slice none 0 0]) := by
  subst hn
  exact run_storeHead ((((((Blk.new _ _ _).alloc _).alloc _).alloc _).alloc _).alloc _) rfl (head_one b s c e z h)
theorem run_storeHead6 (w : World) (n : Nat) (b s c e z h : Int) (o1 o2 o3 o4 o5 o6 : Obj) (hn : n = w.heap.size) : (storeVar 32 ⟨n, 0, none⟩ (.agg #[.int .u64 b, .int .i64 s, .int .i64 c, .int .i64 e, .int .i64 z, .int .i64 h, .int .i64 0, .int .i64 0, .int .i64 0, .int .i64 0, .int .i64 0, .int .i64 0, .int .i64 0, .int .i64 0, .int .i64 0, .int .i64 0, .int .i64 0, .int .i64 0, .int .i64 0, .int .i64 0, .int .i64 0, .int .i64 0, .int .i64 0, .int .i64 0, .int .i64 0, .int .i64 0, .int .i64 0, .int .i64 0, .int .i64 0, .int .i64 0, .int .i64 0, .int .i64 0, .int .i64 0, .int .i64 0, .int .i64 0, .int .i64 0, .int .i64 0, .int .i64 0, .slice none 0 0])).run Try.prog (((((((w.alloc (.cells #[.int .u64 0, .int .i64 0, .int .i64 0, .int .i64 0, .int .i64 0, .int .i64 0, .int .i64 0, .int .i64 0, .int .i64 0, .int .i64 0, .int .i64 0, .int .i64 0, .int .i64 0, .int .i64 0, .int .i64 0, .int .i64 0, .int .i64 0, .int .i64 0, .int .i64 0, .int .i64 0, .int .i64 0, .int .i64 0, .int .i64 0, .int .i64 0, .int .i64 0, .int .i64 0, .int .i64 0, .int .i64 0, .int .i64 0, .int .i64 0, .int .i64 0, .int .i64 0, .int .i64 0, .int .i64 0, .int .i64 0, .int .i64 0, .int .i64 0, .int .i64 0, .slice none 0 0] 32)).alloc o1).alloc o2).alloc o3).alloc o4).alloc o5).alloc o6) = .ok () ((((((((w.alloc (.cells #[.int .u64 0, .int .i64 0, .int .i64 0, .int .i64 0, .int .i64 0, .int .i64 0, .int .i64 0, .int .i64 0, .int .i64 0, .int .i64 0, .int .i64 0, .int .i64 0, .int .i64 0, .int .i64 0, .int .i64 0, .int .i64 0, .int .i64 0, .int .i64 0, .int .i64 0, .int .i64 0, .int .i64 0, .int .i64 0, .int .i64 0, .int .i64 0, .int .i64 0, .int .i64 0, .int .i64 0, .int .i64 0, .int .i64 0, .int .i64 0, .int .i64 0, .int .i64 0, .int .i64 0, .int .i64 0, .int .i64 0, .int .i64 0, .int .i64 0, .int .i64 0, .slice none 0 0] 32)).alloc o1).alloc o2).alloc o3).alloc o4).alloc o5).alloc o6).setRow n #[.int .u64 b, .int .i64 s, .int .i64 c, .int .i64 e, .int .i64 z, .int .i64 h, .int .i64 0, .int .i64 0, .int .i64 0, .int .i64 0, .int .i64 0, .int .i64 0, .int .i64 0, .int .i64 0, .int .i64 0, .int .i64 0, .int .i64 0, .int .i64 0, .int .i64 0, .int .i64 0, .int .i64 0, .int .i64 0, .int .i64 0, .int .i64 0, .int .i64 0, .int .i64 0, .int .i64 0, .int .i64 0, .int .i64 0, .int .i64 0, .int .i64 0, .int .i64 0, .int .i64 0, .int .i64 0, .int .i64 0, .int .i64 0, .int .i64 0, .int .i64 0, .slice none 0 0]) := by
  subst hn
  exact run_storeHead (((((((Blk.new _ _ _).alloc _).alloc _).alloc _).alloc _).alloc _).alloc _) rfl (head_one b s c e z h)
theorem run_storeHeadD0 (w : World) (n : Nat) (b s c e z h : Int) (hn : n = w.heap.size) : (storeVar 32 ⟨n, 0, none⟩ (.agg #[.int .u64 b, .int .i64 s, .int .i64 c, .int .i64 e, .int .i64 z, .int .i64 h, .int .i64 0, .int .i64 0, .int .i64 0, .int .i64 0, .int .i64 0, .int .i64 0, .int .i64 0, .int .i64 0, .int .i64 0, .int .i64 0, .int .i64 0, .int .i64 0, .int .i64 0, .int .i64 0, .int .i64 0, .int .i64 0, .int .i64 0, .int .i64 0, .int .i64 0, .int .i64 0, .int .i64 0, .int .i64 0, .int .i64 0, .int .i64 0, .int .i64 0, .int .i64 0, .int .i64 0, .int .i64 0, .int .i64 0, .int .i64 0, .int .i64 0, .int .i64 0, .slice none 0 0])).run Try.prog ((w.alloc (.cells #[.int .u64 0, .int .i64 0, .int .i64 0, .int .i64 0, .int .i64 0, .int .i64 0, .int .i64 0, .int .i64 0, .int .i64 0, .int .i64 0, .int .i64 0, .int .i64 0, .int .i64 0, .int .i64 0, .int .i64 0, .int .i64 0, .int .i64 0, .int .i64 0, .int .i64 0, .int .i64 0, .int .i64 0, .int .i64 0, .int .i64 0, .int .i64 0, .int .i64 0, .int .i64 0, .int .i64 0, .int .i64 0, .int .i64 0, .int .i64 0, .int .i64 0, .int .i64 0, .int .i64 0, .int .i64 0, .int .i64 0, .int .i64 0, .int .i64 0, .int .i64 0, .slice none 0 0] 32)).drew) = .ok () (((w.alloc (.cells #[.int .u64 0, .int .i64 0, .int .i64 0, .int .i64 0, .int .i64 0, .int .i64 0, .int .i64 0, .int .i64 0, .int .i64 0, .int .i64 0, .int .i64 0, .int .i64 0, .int .i64 0, .int .i64 0, .int .i64 0, .int .i64 0, .int .i64 0, .int .i64 0, .int .i64 0, .int .i64 0, .int .i64 0, .int .i64 0, .int .i64 0, .int .i64 0, .int .i64 0, .int .i64 0, .int .i64 0, .int .i64 0, .int .i64 0, .int .i64 0, .int .i64 0, .int .i64 0, .int .i64 0, .int .i64 0, .int .i64 0, .int .i64 0, .int .i64 0, .int .i64 0, .slice none 0 0] 32)).drew).setRow n #[.int .u64 b, .int .i64 s, .int .i64 c, .int .i64 e, .int .i64 z, .int .i64 h, .int .i64 0, .int .i64 0, .int .i64 0, .int .i64 0, .int .i64 0, .int .i64 0, .int .i64 0, .int .i64 0, .int .i64 0, .int .i64 0, .int .i64 0, .int .i64 0, .int .i64 0, .int .i64 0, .int .i64 0, .int .i64 0, .int .i64 0, .int .i64 0, .int .i64 0, .int .i64 0, .int .i64 0, .int .i64 0, .int .i64 0, .int .i64 0, .int .i64 0, .int .i64 0, .int .i64 0, .int .i64 0, .int .i64 0, .int .i64 0, .int .i64 0, .int .i64 0, .slice none 0 0]) := by
  subst hn
  exact run_storeHead ((Blk.new _ _ _).drew) rfl (head_one b s c e z h)
theorem run_storeHeadD1 (w : World) (n : Nat) (b s c e z h : Int) (o1 : Obj) (hn : n = w.heap.size) : (storeVar 32 ⟨n, 0, none⟩ (.agg #[.int .u64 b, .int .i64 s, .int .i64 c, .int .i64 e, .int .i64 z, .int .i64 h, .int .i64 0, .int .i64 0, .int .i64 0, .int .i64 0, .int .i64 0, .int .i64 0, .int .i64 0, .int .i64 0, .int .i64 0, .int .i64 0, .int .i64 0, .int .i64 0, .int .i64 0, .int .i64 0, .int .i64 0, .int .i64 0, .int .i64 0, .int .i64 0, .int .i64 0, .int .i64 0, .int .i64 0, .int .i64 0, .int .i64 0, .int .i64 0, .int .i64 0, .int .i64 0, .int .i64 0, .int .i64 0, .int .i64 0, .int .i64 0, .int .i64 0, .int .i64 0, .slice none 0 0])).run Try.prog (((w.alloc (.cells #[.int .u64 0, .int .i64 0, .int .i64 0, .int .i64 0, .int .i64 0, .int .i64 0, .int .i64 0, .int .i64 0, .int .i64 0, .int .i64 0, .int .i64 0, .int .i64 0, .int .i64 0, .int .i64 0, .int .i64 0, .int .i64 0, .int .i64 0, .int .i64 0, .int .i64 0, .int .i64 0, .int .i64 0, .int .i64 0, .int .i64 0, .int .i64 0, .int .i64 0, .int .i64 0, .int .i64 0, .int .i64 0, .int .i64 0, .int .i64 0, .int .i64 0, .int .i64 0, .int .i64 0, .int .i64 0, .int .i64 0, .int .i64 0, .int .i64 0, .int .i64 0, .slice none 0 0] 32)).alloc o1).drew) = .ok () ((((w.alloc (.cells #[.int .u64 0, .int .i64 0, .int .i64 0, .int .i64 0, .int .i64 0, .int .i64 0, .int .i64 0, .int .i64 0, .int .i64 0, .int .i64 0, .int .i64 0, .int .i64 0, .int .i64 0, .int .i64 0, .int .i64 0, .int .i64 0, .int .i64 0, .int .i64 0, .int .i64 0, .int .i64 0, .int .i64 0, .int .i64 0, .int .i64 0, .int .i64 0, .int .i64 0, .int .i64 0, .int .i64 0, .int .i64 0, .int .i64 0, .int .i64 0, .int .i64 0, .int .i64 0, .int .i64 0, .int .i64 0, .int .i64 0, .int .i64 0, .int .i64 0, .int .i64 0, .slice none 0 0] 32)).alloc o1).drew).setRow n #[.int .u64 b, .int .i64 s, .int .i64 c, .int .i64 e, .int .i64 z, .int .i64 h, .int .i64 0, .int .i64 0, .int .i64 0, .int .i64 0, .int .i64 0, .int .i64 0, .int .i64 0, .int .i64 0, .int .i64 0, .int .i64 0, .int .i64 0, .int .i64 0, .int .i64 0, .int .i64 0, .int .i64 0, .int .i64 0, .int .i64 0, .int .i64 0, .int .i64 0, .int .i64 0, .int .i64 0, .int .i64 0, .int .i64 0, .int .i64 0, .int .i64 0, .int .i64 0, .int .i64 0, .int .i64 0, .int .i64 0, .int .i64 0, .int .i64 0, .int .i64 0, .slice none 0 0]) := by
  subst hn
  exact run_storeHead (((Blk.new _ _ _).alloc _).drew) rfl (head_one b s c e z h)
theorem run_storeHeadD2 (w : World) (n : Nat) (b s c e z h : Int) (o1 o2 : Obj) (hn : n = w.heap.size) : (storeVar 32 ⟨n, 0, none⟩ (.agg #[.int .u64 b, .int .i64 s, .int .i64 c, .int .i64 e, .int .i64 z, .int .i64 h, .int .i64 0, .int .i64 0, .int .i64 0, .int .i64 0, .int .i64 0, .int .i64 0, .int .i64 0, .int .i64 0, .int .i64 0, .int .i64 0, .int .i64 0, .int .i64 0, .int .i64 0, .int .i64 0, .int .i64 0, .int .i64 0, .int .i64 0, .int .i64 0, .int .i64 0, .int .i64 0, .int .i64 0, .int .i64 0, .int .i64 0, .int .i64 0, .int .i64 0, .int .i64 0, .int .i64 0, .int .i64 0, .int .i64 0, .int .i64 0, .int .i64 0, .int .i64 0, .slice none 0 0])).run Try.prog ((((w.alloc (.cells #[.int .u64 0, .int .i64 0, .int .i64 0, .int .i64 0, .int .i64 0, .int .i64 0, .int .i64 0, .int .i64 0, .int .i64 0, .int .i64 0, .int .i64 0, .int .i64 0, .int .i64 0, .int .i64 0, .int .i64 0, .int .i64 0, .int .i64 0, .int .i64 0, .int .i64 0, .int .i64 0, .int .i64 0, .int .i64 0, .int .i64 0, .int .i64 0, .int .i64 0, .int .i64 0, .int .i64 0, .int .i64 0, .int .i64 0, .int .i64 0, .int .i64 0, .int .i64 0, .int .i64 0, .int .i64 0, .int .i64 0, .int .i64 0, .int .i64 0, .int .i64 0, .slice none 0 0] 32)).alloc o1).alloc o2).drew) = .ok () (((((w.alloc (.cells #[.int .u64 0, .int .i64 0, .int .i64 0, .int .i64 0, .int .i64 0, .int .i64 0, .int .i64 0, .int .i64 0, .int .i64 0, .int .i64 0, .int .i64 0, .int .i64 0, .int .i64 0, .int .i64 0, .int .i64 0, .int .i64 0, .int .i64 0, .int .i64 0, .int .i64 0, .int .i64 0, .int .i64 0, .int .i64 0, .int .i64 0, .int .i64 0, .int .i64 0, .int .i64 0, .int .i64 0, .int .i64 0, .int .i64 0, .int .i64 0, .int .i64 0, .int .i64 0, .int .i64 0, .int .i64 0, .int .i64 0, .int .i64 0, .int .i64 0, .int .i64 0, .slice none 0 0] 32)).alloc o1).alloc o2).drew).setRow n #[.int .u64 b, .int .i64 s, .int .i64 c, .int .i64 e, .int .i64 z, .int .i64 h, .int .i64 0, .int .i64 0, .int .i64 0, .int .i64 0, .int .i64 0, .int .i64 0, .int .i64 0, .int .i64 0, .int .i64 0, .int .i64 0, .int .i64 0, .int .i64 0, .int .i64 0, .int .i64 0, .int .i64 0, .int .i64 0, .int .i64 0, .int .i64 0, .int .i64 0, .int .i64 0, .int .i64 0, .int .i64 0, .int .i64 0, .int .i64 0, .int .i64 0, .int .i64 0, .int .i64 0, .int .i64 0, .int .i64 0, .int .i64 0, .int .i64 0, .int .i64 0, .slice none 0 0]) := by
  subst hn
  exact run_storeHead ((((Blk.new _ _ _).alloc _).alloc _).drew) rfl (head_one b s c e z h)
theorem run_storeHeadD3 (w : World) (n : Nat) (b s c e z h : Int) (o1 o2 o3 : Obj) (hn : n = w.heap.size) : (storeVar 32 ⟨n, 0, none⟩ (.agg #[.int .u64 b, .int .i64 s, .int .i64 c, .int .i64 e, .int .i64 z, .int .i64 h, .int .i64 0, .int .i64 0, .int .i64 0, .int .i64 0, .int .i64 0, .int .i64 0, .int .i64 0, .int .i64 0, .int .i64 0, .int .i64 0, .int .i64 0, .int .i64 0, .int .i64 0, .int .i64 0, .int .i64 0, .int .i64 0, .int .i64 0, .int .i64 0, .int .i64 0, .int .i64 0, .int .i64 0, .int .i64 0, .int .i64 0, .int .i64 0, .int .i64 0, .int .i64 0, .int .i64 0, .int .i64 0, .int .i64 0, .int .i64 0, .int .i64 0, .int .i64 0, .slice none 0 0])).run Try.prog (((((w.alloc (.cells #[.int .u64 0, .int .i64 0, .int .i64 0, .int .i64 0, .int .i64 0, .int .i64 0, .int .i64 0, .int .i64 0, .int .i64 0, .int .i64 0, .int .i64 0, .int .i64 0, .int .i64 0, .int .i64 0, .int .i64 0, .int .i64 0, .int .i64 0, .int .i64 0, .int .i64 0, .int .i64 0, .int .i64 0, .int .i64 0, .int .i64 0, .int .i64 0, .int .i64 0, .int .i64 0, .int .i64 0, .int .i64 0, .int .i64 0, .int .i64 0, .int .i64 0, .int .i64 0, .int .i64 0, .int .i64 0, .int .i64 0, .int .i64 0, .int .i64 0, .int .i64 0, .slice none 0 0] 32)).alloc o1).alloc o2).alloc o3).drew) = .ok () ((((((w.alloc (.cells #[.int .u64 0, .int .i64 0, .int .i64 0, .int .i64 0, .int .i64 0, .int .i64 0, .int .i64 0, .int .i64 0, .int .i64 0, .int .i64 0, .int .i64 0, .int .i64 0, .int .i64 0, .int .i64 0, .int .i64 0, .int .i64 0, .int .i64 0, .int .i64 0, .int .i64 0, .int .i64 0, .int .i64 0, .int .i64 0, .int .i64 0, .int .i64 0, .int .i64 0, .int .i64 0, .int .i64 0, .int .i64 0, .int .i64 0, .int .i64 0, .int .i64 0, .int .i64 0, .int .i64 0, .int .i64 0, .int .i64 0, .int .i64 0, .int .i64 0, .int .i64 0, .slice none 0 0] 32)).alloc o1).alloc o2).alloc o3).drew).setRow n #[.int .u64 b, .int .i64 s, .int .i64 c, .int .i64 e, .int .i64 z, .int .i64 h, .int .i64 0, .int .i64 0, .int .i64 0, .int .i64 0, .int .i64 0, .int .i64 0, .int .i64 0, .int .i64 0, .int .i64 0, .int .i64 0, .int .i64 0, .int .i64 0, .int .i64 0, .int .i64 0, .int .i64 0, .int .i64 0, .int .i64 0, .int .i64 0, .int .i64 0, .int .i64 0, .int .i64 0, .int .i64 0, .int .i64 0, .int .i64 0, .int .i64 0, .int .i64 0, .int .i64 0, .int .i64 0, .int .i64 0, .int .i64 0, .int .i64 0, .int .i64 0, .slice none 0 0]) := by
  subst hn
  exact run_storeHead (((((Blk.new _ _ _).alloc _).alloc _).alloc _).drew) rfl (head_one b s c e z h)
theorem run_storeHeadD4 (w : World) (n : Nat) (b s c e z h : Int) (o1 o2 o3 o4 : Obj) (hn : n = w.heap.size) : (storeVar 32 ⟨n, 0, none⟩ (.agg #[.int .u64 b, .int .i64 s, .int .i64 c, .int .i64 e, .int .i64 z, .int .i64 h, .int .i64 0, .int .i64 0, .int .i64 0, .int .i64 0, .int .i64 0, .int .i64 0, .int .i64 0, .int .i64 0, .int .i64 0, .int .i64 0, .int .i64 0, .int .i64 0, .int .i64 0, .int .i64 0, .int .i64 0, .int .i64 0, .int .i64 0, .int .i64 0, .int .i64 0, .int .i64 0, .int .i64 0, .int .i64 0, .int .i64 0, .int .i64 0, .int .i64 0, .int .i64 0, .int .i64 0, .int .i64 0, .int .i64 0, .int .i64 0, .int .i64 0, .int .i64 0, .slice none 0 0])).run Try.prog ((((((w.alloc (.cells #[.int .u64 0, .int .i64 0, .int .i64 0, .int .i64 0, .int .i64 0, .int .i64 0, .int .i64 0, .int .i64 0, .int .i64 0, .int .i64 0, .int .i64 0, .int .i64 0, .int .i64 0, .int .i64 0, .int .i64 0, .int .i64 0, .int .i64 0, .int .i64 0, .int .i64 0, .int .i64 0, .int .i64 0, .int .i64 0, .int .i64 0, .int .i64 0, .int .i64 0, .int .i64 0, .int .i64 0, .int .i64 0, .int .i64 0, .int .i64 0, .int .i64 0, .int .i64 0, .int .i64 0, .int .i64 0, .int .i64 0, .int .i64 0, .int .i64 0, .int .i64 0, .slice none 0 0] 32)).alloc o1).alloc o2).alloc o3).alloc o4).drew) = .ok () (((((((w.alloc (.cells #[.int .u64 0, .int .i64 0, .int .i64 0, .int .i64 0, .int .i64 0, .int .i64 0, .int .i64 0, .int .i64 0, .int .i64 0, .int .i64 0, .int .i64 0, .int .i64 0, .int .i64 0, .int .i64 0, .int .i64 0, .int .i64 0, .int .i64 0, .int .i64 0, .int .i64 0, .int .i64 0, .int .i64 0, .int .i64 0, .int .i64 0, .int .i64 0, .int .i64 0, .int .i64 0, .int .i64 0, .int .i64 0, .int .i64 0, .int .i64 0, .int .i64 0, .int .i64 0, .int .i64 0, .int .i64 0, .int .i64 0, .int .i64 0, .int .i64 0, .int .i64 0, .slice none 0 0] 32)).alloc o1).alloc o2).alloc o3).alloc o4).drew).setRow n #[.int .u64 b, .int .i64 s, .int .i64 c, .int .i64 e, .int .i64 z, .int .i64 h, .int .i64 0, .int .i64 0, .int .i64 0, .int .i64 0, .int .i64 0, .int .i64 0, .int .i64 0, .int .i64 0, .int .i64 0, .int .i64 0, .int .i64 0, .int .i64 0, .int .i64 0, .int .i64 0, .int .i64 0, .int .i64 0, .int .i64 0, .int .i64 0, .int .i64 0, .int .i64 0, .int .i64 0, .int .i64 0, .int .i64 0, .int .i64 0, .int .i64 0, .int .i64 0, .int .i64 0, .int .i64 0, .int .i64 0, .int .i64 0, .int .i64 0, .int .i64 0, .slice none 0 0]) := by
  subst hn
  exact run_storeHead ((((((Blk.new _ _ _).alloc _).alloc _).alloc _).alloc _).drew) rfl (head_one b s c e z h)
theorem run_storeHeadD5 (w : World) (n : Nat) (b s c e z h : Int) (o1 o2 o3 o4 o5 : Obj) (hn : n = w.heap.size) : (storeVar 32 ⟨n, 0, none⟩ (.agg #[.int .u64 b, .int .i64 s, .int .i64 c, .int .i64 e, .int .i64 z, .int .i64 h, .int .i64 0, .int .i64 0, .int .i64 0, .int .i64 0, .int .i64 0, .int .i64 0, .int .i64 0, .int .i64 0, .int .i64 0, .int .i64 0, .int .i64 0, .int .i64 0, .int .i64 0, .int .i64 0, .int .i64 0, .int .i64 0, .int .i64 0, .int .i64 0, .int .i64 0, .int .i64 0, .int .i64 0, .int .i64 0, .int .i64 0, .int .i64 0, .int .i64 0, .int .i64 0, .int .i64 0, .int .i64 0, .int .i64 0, .int .i64 0, .int .i64 0, .int .i64 0, .slice none 0 0])).run Try.prog (((((((w.alloc (.cells #[.int .u64 0, .int .i64 0, .int .i64 0, .int .i64 0, .int .i64 0, .int .i64 0, .int .i64 0, .int .i64 0, .int .i64 0, .int .i64 0, .int .i64 0, .int .i64 0, .int .i64 0, .int .i64 0, .int .i64 0, .int .i64 0, .int .i64 0, .int .i64 0, .int .i64 0, .int .i64 0, .int .i64 0, .int .i64 0, .int .i64 0, .int .i64 0, .int .i64 0, .int .i64 0, .int .i64 0, .int .i64 0, .int .i64 0, .int .i64 0, .int .i64 0, .int .i64 0, .int .i64 0, .int .i64 0, .int .i64 0, .int .i64 0, .int .i64 0, .int .i64 0, .slice none 0 0] 32)).alloc o1).alloc o2).alloc o3).alloc o4).alloc o5).drew) = .ok () ((((((((w.alloc (.cells #[.int .u64 0, .int .i64 0, .int .i64 0, .int .i64 0, .int .i64 0, .int .i64 0, .int .i64 0, .int .i64 0, .int .i64 0, .int .i64 0, .int .i64 0, .int .i64 0, .int .i64 0, .int .i64 0, .int .i64 0, .int .i64 0, .int .i64 0, .int .i64 0, .int .i64 0, .int .i64 0, .int .i64 0, .int .i64 0, .int .i64 0, .int .i64 0, .int .i64 0, .int .i64 0, .int .i64 0, .int .i64 0, .int .i64 0, .int .i64 0, .int .i64 0, .int .i64 0, .int .i64 0, .int .i64 0, .int .i64 0, .int .i64 0, .int .i64 0, .int .i64 0, .slice none 0 0] 32)).alloc o1).alloc o2).alloc o3).alloc o4).alloc o5).drew).setRow n #[.int .u64 b, .int .i64 s, .int .i64 c, .int .i64 e, .int .i64 z, .int .i64 h, .int .i64 0, .int .i64 0, .int .i64 0, .int .i64 0, .int .i64 0, .int .i64 0, .int .i64 0, .int .i64 0, .int .i64 0, .int .i64 0, .int .i64 0, .int .i64 0, .int .i64 0, .int .i64 0, .int .i64 0, .int .i64 0, .int .i64 0, .int .i64 0, .int .i64 0, .int .i64 0, .int .i64 0, .int .i64 0, .int .i64 0, .int .i64 0, .int .i64 0, .int .i64 0, .int .i64 0, .int .i64 0, .int .i64 0, .int .i64 0, .int .i64 0, .int .i64 0, .slice none 0 0]) := by
  subst hn
  exact run_storeHead (((((((Blk.new _ _ _).alloc _).alloc _).alloc _).alloc _).alloc _).drew) rfl (head_one b s c e z h)
theorem run_storeHeadD6 (w : World) (n : Nat) (b s c e z h : Int) (o1 o2 o3 o4 o5 o6 : Obj) (hn : n = w.heap.size) : (storeVar 32 ⟨n, 0, none⟩ (.agg #[.int .u64 b, .int .i64 s, .int .i64 c, .int .i64 e, .int .i64 z, .int .i64 h, .int .i64 0, .int .i64 0, .int .i64 0, .int .i64 0, .int .i64 0, .int .i64 0, .int .i64 0, .int .i64 0, .int .i64 0, .int .i64 0, .int .i64 0, .int .i64 0, .int .i64 0, .int .i64 0, .int .i64 0, .int .i64 0, .int .i64 0, .int .i64 0, .int .i64 0, .int .i64 0, .int .i64 0, .int .i64 0, .int .i64 0, .int .i64 0, .int .i64 0, .int .i64 0, .int .i64 0, .int .i64 0, .int .i64 0, .int .i64 0, .int .i64 0, .int .i64 0, .slice none 0 0])).run Try.prog ((((((((w.alloc (.cells #[.int .u64 0, .int .i64 0, .int .i64 0, .int .i64 0, .int .i64 0, .int .i64 0, .int .i64 0, .int .i64 0, .int .i64 0, .int .i64 0, .int .i64 0, .int .i64 0, .int .i64 0, .int .i64 0, .int .i64 0, .int .i64 0, .int .i64 0, .int .i64 0, .int .i64 0, .int .i64 0, .int .i64 0, .int .i64 0, .int .i64 0, .int .i64 0, .int .i64 0, .int .i64 0, .int .i64 0, .int .i64 0, .int .i64 0, .int .i64 0, .int .i64 0, .int .i64 0, .int .i64 0, .int .i64 0, .int .i64 0, .int .i64 0, .int .i64 0, .int .i64 0, .slice none 0 0] 32)).alloc o1).alloc o2).alloc o3).alloc o4).alloc o5).alloc o6).drew) = .ok () (((((((((w.alloc (.cells #[.int .u64 0, .int .i64 0, .int .i64 0, .int .i64 0, .int .i64 0, .int .i64 0, .int .i64 0, .int .i64 0, .int .i64 0, .int .i64 0, .int .i64 0, .int .i64 0, .int .i64 0, .int .i64 0, .int .i64 0, .int .i64 0, .int .i64 0, .int .i64 0, .int .i64 0, .int .i64 0, .int .i64 0, .int .i64 0, .int .i64 0, .int .i64 0, .int .i64 0, .int .i64 0, .int .i64 0, .int .i64 0, .int .i64 0, .int .i64 0, .int .i64 0, .int .i64 0, .int .i64 0, .int .i64 0, .int .i64 0, .int .i64 0, .int .i64 0, .int .i64 0, .slice none 0 0] 32)).alloc o1).alloc o2).alloc o3).alloc o4).alloc o5).alloc o6).drew).setRow n #[.int .u64 b, .int .i64 s, .int .i64 c, .int .i64 e, .int .i64 z, .int .i64 h, .int .i64 0, .int .i64 0, .int .i64 0, .int .i64 0, .int .i64 0, .int .i64 0, .int .i64 0, .int .i64 0, .int .i64 0, .int .i64 0, .int .i64 0, .int .i64 0, .int .i64 0, .int .i64 0, .int .i64 0, .int .i64 0, .int .i64 0, .int .i64 0, .int .i64 0, .int .i64 0, .int .i64 0, .int .i64 0, .int .i64 0, .int .i64 0, .int .i64 0, .int .i64 0, .int .i64 0, .int .i64 0, .int .i64 0, .int .i64 0, .int .i64 0, .int .i64 0, .slice none 0 0]) := by
  subst hn
  exact run_storeHead ((((((((Blk.new _ _ _).alloc _).alloc _).alloc _).alloc _).alloc _).alloc _).drew) rfl (head_one b s c e z h)

attribute [local go_sem] storeVar_reader storeVar_dir run_storeHeadD0 run_storeHeadD1 run_storeHeadD2 run_storeHeadD3 run_storeHeadD4 run_storeHeadD5 run_storeHeadD6 run_storeHead0 run_storeHead1 run_storeHead2 run_storeHead3 run_storeHead4 run_storeHead5 run_storeHead6

/-- The directories' numbers, as far as they are filled in. -/
def dirsTo (l : List UInt8) (p : Int) (j : Nat) : Nat → Int := fun k => if k < 2 * j then (numAt l (p + (136 + 4 * (k : Int))) 4 : Nat) else 0

theorem dirsTo_step (l : List UInt8) (p : Int) (j x0 x1 : Nat) (h0 : numAt l (p + (136 + 8 * (j : Int))) 4 = x0) (h1 : numAt l (p + (136 + 8 * (j : Int) + 4)) 4 = x1) :
    ∀ k, k < 32 → dirsTo l p (j + 1) k = (fun k => if k = j * 2 then (x0 : Int) else if k = j * 2 + 1 then (x1 : Int) else dirsTo l p j k) k := by
  intro k _
  show dirsTo l p (j + 1) k = if k = j * 2 then (x0 : Int) else if k = j * 2 + 1 then (x1 : Int) else dirsTo l p j k
  unfold dirsTo
  by_cases a : k = j * 2
  · subst a
    rw [if_pos (by omega), if_pos rfl, ← h0]
    congr 3
    omega
  · by_cases b : k = j * 2 + 1
    · subst b
      rw [if_pos (by omega), if_neg a, if_pos rfl, ← h1]
      congr 3
      omega
    · rw [if_neg a, if_neg b]
      by_cases c : k < 2 * j
      · rw [if_pos (by omega), if_pos c]
      · rw [if_neg (by omega), if_neg c]

theorem own_one {w : World} {base : Nat} {e : TypeId} {sz : Nat} {v : Value} {n : Nat} {xs : List Value} (h : w.ownsRow base e sz v n xs) : v.oneCell' = true := by
  obtain ⟨_, ⟨rfl, _⟩ | ⟨g, cap, cur, rfl, _⟩⟩ := h <;> rfl

theorem own_setRow {w : World} {base : Nat} {e : TypeId} {sz : Nat} {v : Value} {n : Nat} {xs : List Value} (h : w.ownsRow base e sz v n xs) {b : Nat} (hb : b < base) (cs : Array Value) : (w.setRow b cs).ownsRow base e sz v n xs := by
  obtain ⟨hl, h | ⟨g, cap, cur, rfl, hg, hh, r⟩⟩ := h
  · exact ⟨hl, .inl h⟩
  · refine ⟨hl, .inr ⟨g, cap, cur, rfl, hg, ?_, r⟩⟩
    rw [World.setRow, Array.getElem?_modify, if_neg (by omega), hh]

theorem start_ok (l : List UInt8) (h : startE l = 0) : 64 ≤ numAt l 60 4 ∧ numAt l 60 4 + 264 ≤ l.length := by
  unfold startE at h
  split at h
  · simp at h
  · split at h
    · simp at h
    · split at h
      · simp at h
      · rename_i h3
        have g1 : ¬ numAt l 60 4 < 64 := fun h => h3 (.inl h)
        have g3 : inB l.length (numAt l 60 4) 264 = true := by
          cases hh : inB l.length (numAt l 60 4) 264 with
          | true => rfl
          | false => exact absurd (.inr (.inr hh)) h3
        simp only [inB, decide_eq_true_eq] at g3
        omega

set_option maxRecDepth 100000 in
set_option maxHeartbeats 4000000 in
theorem hdr_Parse (A : Option Addr) (c : Nat) (l : List UInt8) (w : World) (hr : Bs w A c l) :
    Calls Try.prog 13 #[.slice A l.length c] w fun e w' => ParseOk (parseF l) w e w' := by
  obtain ⟨r, hrr⟩ : ∃ r, r = parseF l := ⟨_, rfl⟩
  rw [← hrr]
  have HR := hid hrr
  clear hrr
  have hm := hr.mx
  have hle := hr.le
  obtain ⟨w1, hw1⟩ : ∃ w1, w.alloc (.cells #[.int .u64 0, .int .i64 0, .int .i64 0, .int .i64 0, .int .i64 0, .int .i64 0, .int .i64 0, .int .i64 0, .int .i64 0, .int .i64 0, .int .i64 0, .int .i64 0, .int .i64 0, .int .i64 0, .int .i64 0, .int .i64 0, .int .i64 0, .int .i64 0, .int .i64 0, .int .i64 0, .int .i64 0, .int .i64 0, .int .i64 0, .int .i64 0, .int .i64 0, .int .i64 0, .int .i64 0, .int .i64 0, .int .i64 0, .int .i64 0, .int .i64 0, .int .i64 0, .int .i64 0, .int .i64 0, .int .i64 0, .int .i64 0, .int .i64 0, .int .i64 0, .slice none 0 0] 32) = w1 := ⟨_, rfl⟩
  have hZ1 : Blk w1 w.heap.size headZ 32 := hw1 ▸ Blk.new _ _ _
  have hU1 : Below w.heap.size w w1 := hw1 ▸ up_alloc (up_refl _) _
  have hs1 : w1.heap.size = w.heap.size + 1 := by rw [← hw1]; simp
  by_cases hs : startE l = 0
  · obtain ⟨hp64, hpl⟩ := start_ok l hs
    obtain ⟨p, hp⟩ : ∃ p, numAt l 60 4 = p := ⟨_, rfl⟩
    rw [hp] at hp64 hpl
    have hR : startR A c l = .agg #[.slice A l.length c, .int .i64 p] := by rw [startR, if_pos hs, hp]
    obtain ⟨fe, hfe⟩ : ∃ fe, formsE l p = fe := ⟨_, rfl⟩
    have hrn : r = (if fe ≠ 0 then .error fe else parse2 l p) := by
      rw [HR.out, parseF, if_neg (by simp [hs]), hp, hfe]
    have HR2 := hid hrn
    have HRR := hid hR
    have HS := hid hs
    have HFE := hid hfe
    have HZ1 := hid hZ1
    have HU1 := hid hU1
    clear HR hrn hR hs hfe hZ1 hU1 hp
    have e0 : ((0 : Int) != 0) = false := rfl
    by_cases hf : fe = 0
    · subst hf
      have hr2 : r = parse2 l p := by rw [HR2.out, if_neg (by simp)]
      have HR3 := hid hr2
      clear HR2 hr2
      obtain ⟨hd, hhd⟩ : ∃ hd, hd = headAt l p [] := ⟨_, rfl⟩
      go_enter Try.func13, Try.ntmps13
      go_wp2_with fail
      refine (hdr_start A c l w1 (hr.below HU1.out)).mono ?_
      rintro e w2 ⟨rfl, hb2⟩
      rw [HRR.out, HS.out]
      have HB2 := hid hb2
      clear hb2
      obtain ⟨w3, hw3⟩ : ∃ w3, w2.alloc (.cells #[.slice A l.length c, .int .i64 p] 63) = w3 := ⟨_, rfl⟩
      have HZ3 : Hid (Blk w3 w.heap.size headZ 32) := hw3 ▸ (HZ1.out.below HB2.out).alloc _
      have HU3 : Hid (Below w.heap.size w w3) := hw3 ▸ up_alloc (up_trans HU1.out HB2.out) _
      have HT3 : Hid (Blk w3 w2.heap.size #[.slice A l.length c, .int .i64 p] 63) := hw3 ▸ Blk.new _ _ _
      have hs3 : w3.heap.size = w2.heap.size + 1 := by rw [← hw3]; simp
      have t0 := HT3.out.cell 0
      have t1 := HT3.out.cell 1
      simp at t0 t1
      go_wp2_with fail
      refine (hdr_forms A c l p w3 (hr.below HU3.out) (by omega) (by omega)).mono ?_
      rintro e w4 ⟨rfl, hb4⟩
      rw [HFE.out]
      obtain ⟨tb, htb⟩ : ∃ tb, w2.heap.size = tb := ⟨_, rfl⟩
      have hs2 : w.heap.size < tb := by
        have := HB2.out.size
        omega
      have HT4 : Hid (Blk w4 tb #[.slice A l.length c, .int .i64 p] 63) := htb ▸ HT3.out.below hb4
      have HZ4 := hid (HZ3.out.below hb4)
      have HU4 := hid (up_trans HU3.out hb4)
      have hs4 : tb < w4.heap.size := HT4.out.lt
      clear hb4 HT3 HZ3 HU3 HB2 t0 t1 HZ1 HU1 hs3 hw3 hw1 hs1
      have t0 := HT4.out.cell 0
      have t1 := HT4.out.cell 1
      simp at t0 t1
      rw [htb]
      have ne0 := World.new_ne w4 ⟨tb, 0, none⟩ t0
      have ne1 := World.new_ne w4 ⟨tb, 1, none⟩ t1
      clear htb
      have BS4 := hr.below HU4.out
      go_upto_region 7 with fail
      go_cut [7] (fun x wb => ∃ hb, x = .pointer (some ⟨hb, 0, none⟩) ∧ w4.heap.size ≤ hb ∧ Below w4.heap.size w4 wb ∧ Blk wb hb (headV hd.base hd.stamp hd.chars hd.entry hd.size hd.headers (fun _ => 0) (.slice none 0 0)) 32)
      case first =>
        have n1 : numAt l (p + 48) 8 = hd.base := by rw [hhd]; rfl
        have n2 : numAt l (p + 8) 4 = hd.stamp := by rw [hhd]; rfl
        have n3 : numAt l (p + 22) 2 = hd.chars := by rw [hhd]; rfl
        have n4 : numAt l (p + 40) 4 = hd.entry := by rw [hhd]; rfl
        have n5 : numAt l (p + 80) 4 = hd.size := by rw [hhd]; rfl
        have n6 : numAt l (p + 84) 4 = hd.headers := by rw [hhd]; rfl
        go_region_held3 (fun w' => w'.cell? ⟨tb, 0, none⟩ = some (.slice A l.length c) ∧ w'.cell? ⟨tb, 1, none⟩ = some (.int .i64 p))
          ((refine keepB t0 t1 hs4 ?_; repeat (first | with_reducible (first | exact up_refl _ | refine up_drew ?_ | refine up_alloc ?_ _) | refine below_setRow ?_ _ (by omega) _)))
          (first
            | (go_at_call 26; refine (rd_four A c l p _ _ (BS4.below (by repeat (with_reducible (first | exact up_refl _ | refine up_drew ?_ | refine up_alloc ?_ _)))) (by omega) (by omega) (by omega) (by omega)).mono ?_; rintro e w' ⟨rfl, rfl⟩; first | rw [n2] | rw [n4] | rw [n5] | rw [n6])
            | (go_at_call 27; refine (rd_two A c l p _ _ (BS4.below (by repeat (with_reducible (first | exact up_refl _ | refine up_drew ?_ | refine up_alloc ?_ _)))) (by omega) (by omega) (by omega) (by omega)).mono ?_; rintro e w' ⟨rfl, rfl⟩; rw [n3])
            | (go_at_call 25; refine (rd_eight A c l p _ _ (BS4.below (by repeat (with_reducible (first | exact up_refl _ | refine up_drew ?_ | refine up_alloc ?_ _)))) (by omega) (by omega) (by omega) (by omega)).mono ?_; rintro e w' ⟨rfl, rfl⟩; rw [n1]))
        all_goals
          go_wp2_with fail
          go_meet
          refine ⟨_, rfl, ?_, ?_, ?_⟩
          · omega
          · exact below_setRow (up_drew (up_alloc (up_alloc (up_alloc (up_alloc (up_alloc (up_alloc (up_alloc (up_refl _) _) _) _) _) _) _) _)) _ (by omega) _
          · have e : headV hd.base hd.stamp hd.chars hd.entry hd.size hd.headers (fun _ => 0) (.slice none 0 0) = #[.int .u64 (headAt l p []).base, .int .i64 (headAt l p []).stamp, .int .i64 (headAt l p []).chars, .int .i64 (headAt l p []).entry, .int .i64 (headAt l p []).size, .int .i64 (headAt l p []).headers, .int .i64 0, .int .i64 0, .int .i64 0, .int .i64 0, .int .i64 0, .int .i64 0, .int .i64 0, .int .i64 0, .int .i64 0, .int .i64 0, .int .i64 0, .int .i64 0, .int .i64 0, .int .i64 0, .int .i64 0, .int .i64 0, .int .i64 0, .int .i64 0, .int .i64 0, .int .i64 0, .int .i64 0, .int .i64 0, .int .i64 0, .int .i64 0, .int .i64 0, .int .i64 0, .int .i64 0, .int .i64 0, .int .i64 0, .int .i64 0, .int .i64 0, .int .i64 0, .slice none 0 0] := by rw [hhd]; rfl
            rw [e]
            refine Blk.setRow (cs := #[.int .u64 0, .int .i64 0, .int .i64 0, .int .i64 0, .int .i64 0, .int .i64 0, .int .i64 0, .int .i64 0, .int .i64 0, .int .i64 0, .int .i64 0, .int .i64 0, .int .i64 0, .int .i64 0, .int .i64 0, .int .i64 0, .int .i64 0, .int .i64 0, .int .i64 0, .int .i64 0, .int .i64 0, .int .i64 0, .int .i64 0, .int .i64 0, .int .i64 0, .int .i64 0, .int .i64 0, .int .i64 0, .int .i64 0, .int .i64 0, .int .i64 0, .int .i64 0, .int .i64 0, .int .i64 0, .int .i64 0, .int .i64 0, .int .i64 0, .int .i64 0, .slice none 0 0]) ?_ _
            (simp [-World.alloc_eq, Blk.alloc_iff, Blk.drew_iff] <;> omega)
      case rest =>
        obtain ⟨hb, rfl, hhb, hbe, hH⟩ := hcut
        have HTc := hid (HT4.out.below hbe)
        have HZc := hid (HZ4.out.below hbe)
        have HUc := hid (up_trans HU4.out hbe)
        have HBE := hid hbe
        have HH := hid hH
        have HU4' := hid (up_refl w4)
        have BSc := hid (hr.below HUc.out)
        have bb1 : hd.base < 18446744073709551616 := by rw [hhd]; exact numAt_lt l _ 8
        have bb2 : hd.size < 4294967296 := by rw [hhd]; exact numAt_lt l _ 4
        have bb3 : hd.headers < 4294967296 := by rw [hhd]; exact numAt_lt l _ 4
        have bb4 : hd.entry < 4294967296 := by rw [hhd]; exact numAt_lt l _ 4
        have HHD := hid hhd
        clear hhd hbe hH t0 t1 ne0 ne1
        have t0 := HTc.out.cell 0
        have t1 := HTc.out.cell 1
        simp at t0 t1
        obtain ⟨se, hse⟩ : ∃ se, sizesE l p hd.base hd.size = se := ⟨_, rfl⟩
        have HSE := hid hse
        clear hse
        by_cases hz : se = 0
        · subst hz
          have hr3 : r = parse3 l p := by rw [HR3.out, parse2, ← HHD.out, if_neg (by rw [HSE.out]; simp)]
          have HR4 := hid hr3
          clear hr3 HR3
          go_wp2_with (refine wpList_load_row (by rfl) 32 (.tmp 7) (by rfl) hb (by rfl) 32 (headV hd.base hd.stamp hd.chars hd.entry hd.size hd.headers (fun _ => 0) (.slice none 0 0)) (0, 0) _ HH.out Try.underlying32 (by rfl) headInfo ?_)
          refine (hdr_sizes A c l p hd.base hd.stamp hd.chars hd.entry hd.size hd.headers wc BSc.out (by omega) (by omega) (by omega) (by omega)).mono ?_
          rintro e w5 ⟨rfl, hb5⟩
          rw [HSE.out]
          have HT5 := hid (HTc.out.below hb5)
          have t50 := HT5.out.cell 0
          have t51 := HT5.out.cell 1
          simp at t50 t51
          have HB5 := hid hb5
          clear hb5 t0 t1
          go_wp2_with fail
          refine (hdr_sects A c l p hd.base hd.stamp hd.chars hd.entry hd.size hd.headers hb w4 w5 BS4 (up_trans HBE.out HB5.out) hhb (HH.out.below HB5.out) (by omega) (by omega) (by omega) (by omega) (by omega) (by omega)).mono ?_
          rintro e w6 ⟨hU6, ⟨hsn, rfl⟩ | ⟨xs, v, hsx, rfl, hBk, hown⟩⟩
          · have hrn : r = .error 7 := by rw [HR4.out, parse3_none (by rw [← HHD.out]; exact hsn)]
            have HRN := hid hrn
            have HU6 := hid hU6
            clear hsn hrn hU6
            go_wp2_with (refine wpList_store_row (by rfl) 32 (.tmp 2) (.tmp 50) (by rfl) w.heap.size headZ (by rfl) (by rfl) 32 headZ (HZ4.out.below HU6.out) headInfo (by rfl) (headV_one _ _ _ _ _ _ _ _ rfl) ?_)
            rw [HRN.out]
            exact bodyPost_ret (v := .tuple #[.agg headZ, .int .i64 7]) (results_ct Try.results13 _ _ w.heap.size 32 headZ _ (by rfl) ((HZ4.out.below HU6.out).setRow _) Try.underlying32 (by rfl) headInfo) rfl
              ⟨below_setRow (up_trans HU4.out HU6.out) _ (Nat.le_refl _) _, rfl⟩
          · have f3 := hBk.cell 3
            have f4 := hBk.cell 4
            simp at f3 f4
            have hps := parse3_some (by rw [← HHD.out]; exact hsx)
            rw [← HR4.out, ← HHD.out] at hps
            have HPS := hid hps
            have HU6 := hid hU6
            have HBK := hid hBk
            have HOW := hid hown
            clear hsx hps hU6 hBk hown
            by_cases hes : hd.size ≤ hd.entry
            · have hrn : r = .error 5 := by rw [HPS.out, if_pos hes]
              have HRN := hid hrn
              have dz : decide ((hd.size : Int) ≤ hd.entry) = true := decide_eq_true (by omega)
              have dz2 : (hd.size ≤ hd.entry) = True := by simp [hes]
              clear hrn hes
              go_wp2_with (refine wpList_store_row (by rfl) 32 (.tmp 2) (.tmp 57) (by rfl) w.heap.size headZ (by rfl) (by rfl) 32 headZ (HZ4.out.below HU6.out) headInfo (by rfl) (headV_one _ _ _ _ _ _ _ _ rfl) ?_)
              rw [HRN.out]
              exact bodyPost_ret (v := .tuple #[.agg headZ, .int .i64 5]) (results_ct Try.results13 _ _ w.heap.size 32 headZ _ (by rfl) ((HZ4.out.below HU6.out).setRow _) Try.underlying32 (by rfl) headInfo) rfl
                ⟨below_setRow (up_trans HU4.out HU6.out) _ (Nat.le_refl _) _, rfl⟩
            · have hrn : r = .ok (headAt l p xs) := by rw [HPS.out, if_neg hes]
              have HRN := hid hrn
              have dz : decide ((hd.size : Int) ≤ hd.entry) = false := decide_eq_false (by omega)
              have dz2 : (hd.size ≤ hd.entry) = False := by simp [hes]
              clear hrn hes
              have hhb5 : hb < w5.heap.size := (HH.out.below HB5.out).lt
              go_wp2_with fail
              go_loopw [58] (fun i wr => ∃ j : Nat, j ≤ 16 ∧ i = .int .i64 j ∧ Below w4.heap.size w4 wr ∧ Blk wr hb (headV hd.base hd.stamp hd.chars hd.entry hd.size hd.headers (dirsTo l p j) v) 32 ∧
                wr.ownsRow w5.heap.size 37 6 v xs.length (scells xs)) (fun i _ => 16 - (intOf i).toNat)
              case atStart =>
                refine ⟨0, by omega, rfl, HU6.out, ?_, HOW.out⟩
                rw [headV_ext _ _ _ _ _ _ (dirsTo l p 0) (fun _ => 0) v (fun k _ => by simp [dirsTo])]
                exact HBK.out
              case round =>
                obtain ⟨j, hj, rfl, hUr, hBr, hOr⟩ := hrel
                by_cases hj16 : j = 16
                · subst hj16
                  have HUR := hid hUr
                  have HBR := hid hBr
                  have HOR := hid hOr
                  clear hUr hBr hOr
                  go_wp2_with (first
                    | refine wpList_load_row (by rfl) 32 (.tmp 7) (by rfl) hb (by rfl) 32 (headV hd.base hd.stamp hd.chars hd.entry hd.size hd.headers (dirsTo l p 16) v) (0, 0) _ HBR.out Try.underlying32 (by rfl) headInfo ?_
                    | refine wpList_store_row (by rfl) 32 (.tmp 2) (.tmp 77) (by rfl) w.heap.size (headV hd.base hd.stamp hd.chars hd.entry hd.size hd.headers (dirsTo l p 16) v) (by rfl) (by rfl) 32 headZ (HZ4.out.below HUR.out) headInfo (by rfl) (headV_one _ _ _ _ _ _ _ _ (own_one HOR.out)) ?_)
                  rw [HRN.out]
                  exact bodyPost_ret (v := .tuple #[.agg (headV hd.base hd.stamp hd.chars hd.entry hd.size hd.headers (dirsTo l p 16) v), .int .i64 0]) (results_ct Try.results13 _ _ w.heap.size 32 _ _ (by rfl) ((HZ4.out.below HUR.out).setRow _) Try.underlying32 (by rfl) headInfo) rfl
                    ⟨below_setRow (up_trans HU4.out HUR.out) _ (Nat.le_refl _) _, v, by
                      rw [HHD.out, headV_ext _ _ _ _ _ _ (dirsTo l p 16) (fun k => ((headAt l p xs).d k : Int)) v (fun k hk => by simp [dirsTo, headAt, hk])]
                      rfl, own_mono (own_setRow HOR.out (by have := hs2; have := hs4; have := HU4'.out.size; omega) _) (by omega)⟩
                · have hjl : (j : Int) < 16 := by omega
                  have hj0 : (0 : Int) ≤ (j : Int) := by omega
                  have HUR := hid hUr
                  have HBR := hid hBr
                  have HOR := hid hOr
                  clear hUr hBr hOr
                  have t40 := HT4.out.cell 0
                  have t41 := HT4.out.cell 1
                  simp at t40 t41
                  obtain ⟨u0, hu0⟩ := Option.isSome_iff_exists.1 (headV_cell hd.base hd.stamp hd.chars hd.entry hd.size hd.headers (dirsTo l p j) v (6 + 2 * j) (by omega))
                  obtain ⟨u1, hu1⟩ := Option.isSome_iff_exists.1 (headV_cell hd.base hd.stamp hd.chars hd.entry hd.size hd.headers (dirsTo l p j) v (6 + 2 * j + 1) (by omega))
                  have c0 := (HBR.out.cell (6 + 2 * j)).trans hu0
                  have c1 := (HBR.out.cell (6 + 2 * j + 1)).trans hu1
                  have z0 := HBR.out.free (6 + 2 * j)
                  have z1 := HBR.out.free (6 + 2 * j + 1)
                  rw [Nat.mul_comm 2 j] at c0 c1 z0 z1
                  go_upto_region 19 with fail
                  have BSr := BS4.below HUR.out
                  have UR := HUR.out
                  have hszr : hb < wr.heap.size := HBR.out.lt
                  have ne2 : wr.heap.size ≠ hb := by omega
                  have ne3 : wr.heap.size + 1 ≠ hb := by omega
                  have ne4 : hb ≠ wr.heap.size := by omega
                  have ne5 : hb ≠ wr.heap.size + 1 := by omega
                  have k1 : IntKind.i64.wrap (8 * (j : Int)) = 8 * j := wrap_i64_id (by omega) (by omega)
                  have k2 : IntKind.i64.wrap (136 + 8 * (j : Int)) = 136 + 8 * j := wrap_i64_id (by omega) (by omega)
                  have k3 : IntKind.i64.wrap (136 + 8 * (j : Int) + 4) = 136 + 8 * j + 4 := wrap_i64_id (by omega) (by omega)
                  obtain ⟨x0, hx0⟩ : ∃ x, numAt l (p + (136 + 8 * (j : Int))) 4 = x := ⟨_, rfl⟩
                  obtain ⟨x1, hx1⟩ : ∃ x, numAt l (p + (136 + 8 * (j : Int) + 4)) 4 = x := ⟨_, rfl⟩
                  go_region_held3 (fun w' => w'.cell? ⟨tb, 0, none⟩ = some (.slice A l.length c) ∧ w'.cell? ⟨tb, 1, none⟩ = some (.int .i64 p))
                    ((refine keepB t40 t41 hs4 ?_; repeat (with_reducible (first | exact UR | refine up_drew ?_ | refine up_alloc ?_ _ | refine up_set ?_ hhb _))))
                    (first
                      | (go_at_call 26; refine (rd_four A c l p _ _ (BSr.below (by repeat (with_reducible (first | exact up_refl _ | refine up_drew ?_ | refine up_alloc ?_ _)))) (by omega) (by omega) (by omega) (by omega)).mono ?_; rintro e w' ⟨rfl, rfl⟩; first | rw [hx0] | rw [hx1]))
                  go_wp2_with fail
                  go_roundw
                  case measure => simp [intOf]; omega
                  case rel =>
                    refine ⟨j + 1, by omega, by simp, up_drew (up_alloc (up_alloc (up_set (up_set HUR.out hhb _) hhb _) _) _), ?_, ?_⟩
                    · have e := headV_dir hd.base hd.stamp hd.chars hd.entry hd.size hd.headers (dirsTo l p j) v j (by omega) x0 x1
                      rw [Nat.mul_comm 2 j] at e
                      rw [headV_ext _ _ _ _ _ _ (dirsTo l p (j + 1)) (fun k => if k = j * 2 then (x0 : Int) else if k = j * 2 + 1 then (x1 : Int) else dirsTo l p j k) v (dirsTo_step l p j x0 x1 hx0 hx1), ← e]
                      exact ((((HBR.out.set (6 + j * 2) (.int .i64 x0)).set (6 + j * 2 + 1) (.int .i64 x1)).alloc _).alloc _).drew
                    · exact (((Go.RowKit.ownsRow_setCell_below (Go.RowKit.ownsRow_setCell_below HOR.out hhb5 _) hhb5 _).alloc _).alloc _).drew
        · have hrn : r = .error se := by rw [HR3.out, parse2, ← HHD.out, HSE.out, if_pos hz]
          have HRN := hid hrn
          have dz : ((se : Int) != 0) = true := by rw [bne_iff_ne]; exact hz
          clear hrn hz
          go_wp2_with (refine wpList_load_row (by rfl) 32 (.tmp 7) (by rfl) hb (by rfl) 32 (headV hd.base hd.stamp hd.chars hd.entry hd.size hd.headers (fun _ => 0) (.slice none 0 0)) (0, 0) _ HH.out Try.underlying32 (by rfl) headInfo ?_)
          refine (hdr_sizes A c l p hd.base hd.stamp hd.chars hd.entry hd.size hd.headers wc BSc.out (by omega) (by omega) (by omega) (by omega)).mono ?_
          rintro e w5 ⟨rfl, hb5⟩
          rw [HSE.out]
          have HB5 := hid hb5
          clear hb5
          go_wp2_with (refine wpList_store_row (by rfl) 32 (.tmp 2) (.tmp 44) (by rfl) w.heap.size headZ (by rfl) (by rfl) 32 headZ (HZc.out.below HB5.out) headInfo (by rfl) (headV_one _ _ _ _ _ _ _ _ rfl) ?_)
          rw [HRN.out]
          exact bodyPost_ret (v := .tuple #[.agg headZ, .int .i64 se]) (results_ct Try.results13 _ _ w.heap.size 32 headZ _ (by rfl) ((HZc.out.below HB5.out).setRow _) Try.underlying32 (by rfl) headInfo) rfl
            ⟨below_setRow (up_trans HUc.out HB5.out) _ (Nat.le_refl _) _, rfl⟩
    · have hrn : r = .error fe := by rw [HR2.out, if_pos hf]
      subst hrn
      have dz : ((fe : Int) != 0) = true := by rw [bne_iff_ne]; exact hf
      clear HR2 hf
      go_enter Try.func13, Try.ntmps13
      go_wp2_with fail
      refine (hdr_start A c l w1 (hr.below HU1.out)).mono ?_
      rintro e w2 ⟨rfl, hb2⟩
      rw [HRR.out, HS.out]
      have HB2 := hid hb2
      clear hb2
      obtain ⟨w3, hw3⟩ : ∃ w3, w2.alloc (.cells #[.slice A l.length c, .int .i64 p] 63) = w3 := ⟨_, rfl⟩
      have HZ3 : Hid (Blk w3 w.heap.size headZ 32) := hw3 ▸ (HZ1.out.below HB2.out).alloc _
      have HU3 : Hid (Below w.heap.size w w3) := hw3 ▸ up_alloc (up_trans HU1.out HB2.out) _
      have HT3 : Hid (Blk w3 w2.heap.size #[.slice A l.length c, .int .i64 p] 63) := hw3 ▸ Blk.new _ _ _
      have t0 := HT3.out.cell 0
      have t1 := HT3.out.cell 1
      simp at t0 t1
      go_wp2_with fail
      refine (hdr_forms A c l p w3 (hr.below HU3.out) (by omega) (by omega)).mono ?_
      rintro e w4 ⟨rfl, hb4⟩
      rw [HFE.out]
      have HB4 := hid hb4
      clear hb4
      go_wp2_with (refine wpList_store_row (by rfl) 32 (.tmp 2) (.tmp 24) (by rfl) w.heap.size headZ (by rfl) (by rfl) 32 headZ (HZ3.out.below HB4.out) headInfo (by rfl) (headV_one _ _ _ _ _ _ _ _ rfl) ?_)
      exact bodyPost_ret (v := .tuple #[.agg headZ, .int .i64 fe]) (results_ct Try.results13 _ _ w.heap.size 32 headZ _ (by rfl) ((HZ3.out.below HB4.out).setRow _) Try.underlying32 (by rfl) headInfo) rfl
          ⟨below_setRow (up_trans HU3.out HB4.out) _ (Nat.le_refl _) _, rfl⟩
  · obtain ⟨se, hse⟩ : ∃ se, startE l = se := ⟨_, rfl⟩
    have hrn : r = .error se := by rw [HR.out, parseF, if_pos hs, hse]
    have hR : startR A c l = .agg #[.slice none 0 0, .int .i64 0] := by rw [startR, if_neg hs]
    rw [hse] at hs
    have dz : ((se : Int) != 0) = true := by rw [bne_iff_ne]; exact hs
    subst hrn
    have HZ1 := hid hZ1
    have HU1 := hid hU1
    have HSE := hid hse
    have HRR := hid hR
    clear HR hZ1 hU1 hs hse hR
    go_enter Try.func13, Try.ntmps13
    go_wp2_with fail
    refine (hdr_start A c l w1 (hr.below HU1.out)).mono ?_
    rintro e w2 ⟨rfl, hb2⟩
    rw [HRR.out, HSE.out]
    have HB2 := hid hb2
    clear hb2
    go_wp2_with (refine wpList_store_row (by rfl) 32 (.tmp 2) (.tmp 18) (by rfl) w.heap.size headZ (by rfl) (by rfl) 32 headZ ((HZ1.out.below HB2.out).alloc _) headInfo (by rfl) (headV_one _ _ _ _ _ _ _ _ rfl) ?_)
    exact bodyPost_ret (v := .tuple #[.agg headZ, .int .i64 se]) (results_ct Try.results13 _ _ w.heap.size 32 headZ _ (by rfl) (((HZ1.out.below HB2.out).alloc _).setRow _) Try.underlying32 (by rfl) headInfo) rfl
      ⟨below_setRow (up_alloc (up_trans HU1.out HB2.out) _) _ (Nat.le_refl _) _, rfl⟩
end Go.Proofs.Ytajcihcbgmpdjaa
