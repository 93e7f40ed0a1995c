/- Parts of the proof of OverlapCrosses, joined: CfTy. -/
import Derived.Test.YtobgcfncnfepfaaPm2
set_option linter.unusedVariables false
set_option linter.unusedSimpArgs false
/- Kinds of data. -/
namespace Pm
open Go
abbrev tI : Ty := .int .i64
abbrev t0 : Ty := .pair tI tI
abbrev t1 : Ty := .pair t0 t0
abbrev t2 : Ty := .pair (.sl tI) .bool
abbrev t3 : Ty := .pair tI t2
abbrev t4 : Ty := .pair tI t3
abbrev t5 : Ty := .pair tI t4
abbrev t7 : Ty := .pair tI t0
abbrev t8 : Ty := .pair tI t7
end Pm
