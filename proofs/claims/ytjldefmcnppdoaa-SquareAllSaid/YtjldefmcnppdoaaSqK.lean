/- What holds of closed calls of the chapter square, told by the kernel. -/
import Derived.Test.YtjldefmcnppdoaaKern
namespace Go.Proofs.Ytjldefmcnppdoaa
open Go Go.Am
theorem sqAwake_run : RF AM 31 [] (.s (.bool true)) := RF_ans (m := 100) (by kernel_rfl)
end Go.Proofs.Ytjldefmcnppdoaa
