/- What holds of closed calls of the chapter board, told by the kernel. -/
import Derived.Test.YtjldefmcnppdoaaKern
namespace Go.Proofs.Ytjldefmcnppdoaa
open Go Go.Am
theorem boAwake_run : RF AM 54 [] (.s (.bool true)) := RF_ans (m := 100) (by kernel_rfl)
end Go.Proofs.Ytjldefmcnppdoaa
