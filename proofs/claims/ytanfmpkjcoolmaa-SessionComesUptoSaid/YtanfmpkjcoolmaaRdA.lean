/- The readers, told of what is left. -/
import Derived.Test.YtanfmpkjcoolmaaPkA
import Derived.Test.YtanfmpkjcoolmaaPackPlain3
import Derived.KernelRfl
set_option linter.unusedVariables false
set_option linter.unusedSimpArgs false
namespace Go.Proofs.Ytanfmpkjcoolmaa.Rd
open Go Go.Abs Go.Proofs.Ytanfmpkjcoolmaa.Pk
attribute [local irreducible] AWP AOps Does


end Go.Proofs.Ytanfmpkjcoolmaa.Rd
namespace Go.Proofs.Ytanfmpkjcoolmaa.Rd
end Go.Proofs.Ytanfmpkjcoolmaa.Rd
