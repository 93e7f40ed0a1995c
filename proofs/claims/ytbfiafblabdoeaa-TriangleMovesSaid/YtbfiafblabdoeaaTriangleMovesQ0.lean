/- Parts of the proof of TriangleMoves, joined: CfTy. -/
import Derived.Test.YtbfiafblabdoeaaPm2
set_option linter.unusedVariables false
set_option linter.unusedSimpArgs false
/- Kinds of data. -/
namespace Pm
open Go
abbrev tI : Ty := .int .i64
abbrev t0 : Ty := .pair tI tI
abbrev t1 : Ty := .pair t0 t0
abbrev t2 : Ty := .pair (.sl tI) .bool
abbrev t3 : Ty := .pair tI t2
abbrev t4 : Ty := .pair tI t3
abbrev t5 : Ty := .pair tI t4
end Pm
