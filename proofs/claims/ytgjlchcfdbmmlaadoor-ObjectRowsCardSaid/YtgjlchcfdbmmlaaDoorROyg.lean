/- Texts of one proof, joined: TOY. -/
import Derived.Test.YtgjlchcfdbmmlaaDoorROwg
set_option linter.unusedSimpArgs false
set_option linter.unusedVariables false
/- ObjectBack, walked. -/
namespace Go.Proofs.YtgjlchcfdbmmlaaDoor.PObjectTakes
open Go.RowKit Go.Proofs.YtgjlchcfdbmmlaaDoor.Ord Go.Proofs.YtgjlchcfdbmmlaaDoor.Obj Go.Proofs.YtgjlchcfdbmmlaaDoorW.PrintWords Go.Proofs.YtgjlchcfdbmmlaaDoorW.PrintLast Go.Proofs.YtgjlchcfdbmmlaaDoorW.PrintMore
set_option linter.unusedVariables false
set_option linter.unusedSimpArgs false
attribute [local irreducible] OpGives

end Go.Proofs.YtgjlchcfdbmmlaaDoor.PObjectTakes
