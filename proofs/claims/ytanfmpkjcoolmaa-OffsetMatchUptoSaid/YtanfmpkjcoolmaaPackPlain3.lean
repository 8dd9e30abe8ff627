/- Plain: numbers read one behind the other. -/
import Derived.Test.YtanfmpkjcoolmaaPackPlain2
set_option linter.unusedVariables false
namespace Go.Abs
/-- Any number. -/
def Up.w (u : Up) : Int × Up := u.int (-9223372036854775808) 9223372036854775807
def Up.flag (u : Up) : Int × Up := u.int 0 1
end Go.Abs
