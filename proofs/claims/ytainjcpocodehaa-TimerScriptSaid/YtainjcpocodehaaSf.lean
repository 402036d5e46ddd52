/- The law's last step over a contract whose memory begins with known variables. -/
import Derived.Test.YtainjcpocodehaaSe
set_option linter.unusedSimpArgs false
set_option linter.unusedVariables false
namespace Go.Ve
open Go Go.RowKit Go.WideShapes Go.ChangeShapes
end Go.Ve

