/- The plain law: what the functions compute answers as the law says, for all arguments. -/
import Derived.Test.YtkmjmhjfadaebaaF11
set_option linter.unusedVariables false
set_option linter.unusedSimpArgs false
namespace Go.Am.G
open Go Go.Am

theorem plain : Plain := fun _ _ => ⟨3, rfl⟩
end Go.Am.G
