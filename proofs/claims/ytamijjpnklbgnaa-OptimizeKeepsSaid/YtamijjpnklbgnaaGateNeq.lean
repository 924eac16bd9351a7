/-
  Gates compared as structs.
-/
import Derived.Test.YtamijjpnklbgnaaCPlain
import Derived.Test.YtamijjpnklbgnaaListEq
import Derived.Test.YtamijjpnklbgnaaProg
import Derived.Deep.QuietTactic
import Derived.BigQuiet
namespace Go.Proofs.Ytamijjpnklbgnaa
open Go.RowKit
set_option linter.unusedSimpArgs false
set_option linter.unusedVariables false

theorem gate_neq (x y : Gt) (W : World) : (binOp .neq 32 (.agg #[.int .i64 x.op, .int .i64 x.a, .int .i64 x.b]) (.agg #[.int .i64 y.op, .int .i64 y.a, .int .i64 y.b])).run Try.prog W = .ok (.bool (!gtEq x y)) W := by
  unfold gtEq
  cases h1 : (x.op == y.op) <;> cases h2 : (x.a == y.a) <;> cases h3 : (x.b == y.b) <;> (simp only [beq_eq_false_iff_ne, beq_iff_eq] at h1 h2 h3; go_simp)

end Go.Proofs.Ytamijjpnklbgnaa
