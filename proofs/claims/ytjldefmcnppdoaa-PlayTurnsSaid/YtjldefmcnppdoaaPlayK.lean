/- What holds of closed calls of the chapter play, told by the kernel. -/
import Derived.Test.YtjldefmcnppdoaaKern
namespace Go.Proofs.Ytjldefmcnppdoaa
open Go Go.Am
theorem playAwake_run : RF AM 61 [] (.s (.bool true)) := RF_ans (m := 400) (by kernel_rfl)
end Go.Proofs.Ytjldefmcnppdoaa
