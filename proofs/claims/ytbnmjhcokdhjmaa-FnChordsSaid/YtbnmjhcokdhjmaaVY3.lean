/- Contracts: rows of rows are compared, marked, held. Conditions: told by each spec. -/
import Derived.Test.YtbnmjhcokdhjmaaVW2
set_option linter.unusedVariables false
set_option linter.unusedSimpArgs false
namespace Go.Proofs.Ytbnmjhcokdhjmaa.V
open Go
abbrev kR : Kn := .sl 2 (.int .i64)
abbrev RowL := List (List Int)
end Go.Proofs.Ytbnmjhcokdhjmaa.V
