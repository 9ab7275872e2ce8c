/- What == and != say of two mails, and of two arrays of six counts. -/
import Derived.Test.YtobloedpmjkgpaaCvA
import Derived.Laws.StructEq
namespace Go.Proofs.Ytobloedpmjkgpaa
set_option linter.unusedVariables false
set_option linter.unusedSimpArgs false
open Go.RowKit

theorem eqMail (y x : R4) (w : World) : (Op.equalIn 10000 58 (.agg #[.int .i64 y.a, .int .i64 y.b, .int .i64 y.c, .int .i64 y.d]) (.agg #[.int .i64 x.a, .int .i64 x.b, .int .i64 x.c, .int .i64 x.d])).run Try.prog w = .ok (decide (y = x)) w := by
  have u3 := Try.underlying3
  have a3 := Try.isAgg3
  have z3 := Try.sizeOf3
  have hS : Try.prog.underlying 58 = some (.struct (Try.prog.fieldsOf 58)) := by kernel_rfl
  have hp : Try.prog.stoodInHeld 58 = false := by kernel_rfl
  have e : decide (y = x) = (y.a == x.a && (y.b == x.b && (y.c == x.c && y.d == x.d))) := by
    rw [Bool.eq_iff_iff]; cases y; cases x; simp
  rw [e, show (10000 : Nat) = 9999 + 1 from rfl, run_equalIn_agg w 9999 58 _ _ hS hp]
  simp only [Program.fieldsOf, Try.underlying58]
  go_simp
  by_cases h1 : y.a = x.a <;> by_cases h2 : y.b = x.b <;> by_cases h3 : y.c = x.c <;> by_cases h4 : y.d = x.d <;> simp [h1, h2, h3, h4]
theorem neqMail (y x : R4) (w : World) : (binOp .neq 58 (.agg #[.int .i64 y.a, .int .i64 y.b, .int .i64 y.c, .int .i64 y.d]) (.agg #[.int .i64 x.a, .int .i64 x.b, .int .i64 x.c, .int .i64 x.d])).run Try.prog w = .ok (.bool (!decide (y = x))) w := by
  rw [run_neq_struct, eqMail]; rfl
theorem guardMail (op : BinOp) (a b : Operand) (xs ys : Array Value) (w : World) : (eqGuard op 58 a b (.agg xs) (.agg ys)).run Try.prog w = .ok () w := run_eqGuard_agg w op 58 a b xs ys (by kernel_rfl)
theorem eqArr6 (a b c d e f : Int) (w : World) : (Op.equalIn 10000 34 (.agg #[.int .i64 a, .int .i64 b, .int .i64 c, .int .i64 d, .int .i64 e, .int .i64 f]) (.agg #[.int .i64 a, .int .i64 b, .int .i64 c, .int .i64 d, .int .i64 e, .int .i64 f])).run Try.prog w = .ok true w := by
  have u3 := Try.underlying3
  have a3 := Try.isAgg3
  have z3 := Try.sizeOf3
  rw [show (10000 : Nat) = 9999 + 1 from rfl, Op.equalIn]
  simp only [Sem.run_bind, run_underlying Try.underlying34, Result.andThen_ok]
  simp only [Std.Legacy.Range.forIn_eq_forIn_range', Std.Legacy.Range.size, Nat.sub_zero, Nat.add_sub_cancel, Nat.div_one, List.range'_succ, List.range'_zero, List.forIn_cons, List.forIn_nil]
  go_simp
theorem neqArr6 (a b c d e f : Int) (w : World) : (binOp .neq 34 (.agg #[.int .i64 a, .int .i64 b, .int .i64 c, .int .i64 d, .int .i64 e, .int .i64 f]) (.agg #[.int .i64 a, .int .i64 b, .int .i64 c, .int .i64 d, .int .i64 e, .int .i64 f])).run Try.prog w = .ok (.bool false) w := by
  rw [run_neq_struct, eqArr6]; rfl
theorem guardArr6 (op : BinOp) (a b : Operand) (xs ys : Array Value) (w : World) : (eqGuard op 34 a b (.agg xs) (.agg ys)).run Try.prog w = .ok () w := run_eqGuard_agg w op 34 a b xs ys (by kernel_rfl)
end Go.Proofs.Ytobloedpmjkgpaa
