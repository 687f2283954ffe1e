/- An error as its number: 0 is nil. How the walk asks it for nil. -/
import Derived.Test.YtjbpkmmpbhngbaaGreatDoorProg
import Derived.WalkKit
namespace Go.Proofs.YtjbpkmmpbhngbaaGreatDoor
open Go.RowKit

theorem retB {a b : Bool} (h : a = b) : Ending.returned (.bool a) = .returned (.bool b) := by rw [h]
theorem retI {k : IntKind} {a b : Int} (h : a = b) : Ending.returned (.int k a) = .returned (.int k b) := by rw [h]
theorem retIE {k : IntKind} {a b : Int} {x y : Value} (h : a = b) (h2 : x = y) : Ending.returned (.tuple #[.int k a, x]) = .returned (.tuple #[.int k b, y]) := by rw [h, h2]

/-- The error of number c: nil, or the Errno. -/
def errV (c : Int) : Value := if c = 0 then .nilIface else .iface 54 (.int .i64 c)
theorem errV_0 : errV 0 = .nilIface := rfl
theorem errV_ne {c : Int} (h : c ≠ 0) : errV c = .iface 54 (.int .i64 c) := if_neg h
theorem errV_1 : Value.iface 54 (.int .i64 1) = errV 1 := rfl
theorem errV_3 : Value.iface 54 (.int .i64 3) = errV 3 := rfl
theorem errV_4 : Value.iface 54 (.int .i64 4) = errV 4 := rfl
theorem errV_5 : Value.iface 54 (.int .i64 5) = errV 5 := rfl
theorem errV_6 : Value.iface 54 (.int .i64 6) = errV 6 := rfl
theorem errV_7 : Value.iface 54 (.int .i64 7) = errV 7 := rfl
theorem errV_8 : Value.iface 54 (.int .i64 8) = errV 8 := rfl
theorem errV_9 : Value.iface 54 (.int .i64 9) = errV 9 := rfl

theorem Tryz.errIface : Tryz.prog.underlying 27 = some (.interface (Tryz.prog.methodsAt 27)) := by kernel_rfl
theorem run_neq_errV (c : Int) (w : World) : (binOp .neq 27 (errV c) .nilIface).run Tryz.prog w = .ok (.bool (c != 0)) w := by
  by_cases h : c = 0
  · subst h; exact run_neq_nil_nil w 27 Tryz.errIface
  · rw [errV_ne h, run_neq_held_nil w 27 _ _ Tryz.errIface]
    congr 1; congr 1; exact (bne_iff_ne.2 h).symm
theorem run_eql_errV (c : Int) (w : World) : (binOp .eql 27 (errV c) .nilIface).run Tryz.prog w = .ok (.bool (c == 0)) w := by
  by_cases h : c = 0
  · subst h; exact run_eql_nil_nil w 27 Tryz.errIface
  · rw [errV_ne h, run_eql_held_nil w 27 _ _ Tryz.errIface]
    congr 1; congr 1; exact (beq_eq_false_iff_ne.2 h).symm
theorem run_guard_errV (op : BinOp) (c : Int) (w : World) (x : Operand) : (eqGuard op 27 x (.const .nilIface) (errV c) .nilIface).run Tryz.prog w = .ok () w := by
  by_cases h : c = 0
  · subst h; rw [errV_0]; cases op <;> simp [go_sem, eqGuard]
  · rw [errV_ne h]; cases op <;> simp [go_sem, eqGuard]
attribute [go_sem] run_neq_errV run_eql_errV run_guard_errV
end Go.Proofs.YtjbpkmmpbhngbaaGreatDoor
