/- The functions of this seat, as the abstract machine has them, together. -/
import Derived.Test.YtjldefmcnppdoaaAmProg0
import Derived.Test.YtjldefmcnppdoaaAmProg1
import Derived.Test.YtjldefmcnppdoaaAmProg2
import Derived.Test.YtjldefmcnppdoaaAmWpM
import Derived.Test.YtjldefmcnppdoaaPrimD
namespace Go.Proofs.Ytjldefmcnppdoaa
open Go Go.Am
set_option maxRecDepth 100000
def fnsL : List (FuncId × AF) := [(2, a2), (3, a3), (4, a4), (5, a5), (6, a6), (7, a7), (8, a8), (17, a17), (29, a29), (30, a30), (33, a33), (36, a36), (37, a37), (38, a38), (39, a39), (56, a56), (57, a57), (61, a61), (62, a62), (64, a64), (66, a66), (68, a68), (78, a78), (79, a79), (82, a82), (83, a83), (84, a84), (86, a86), (88, a88), (89, a89), (90, a90), (91, a91), (95, a95), (96, a96), (104, a104), (112, a112), (113, a113), (115, a115), (116, a116), (117, a117), (118, a118), (119, a119)]
theorem goodL : GoodL Try.prog fnsL := ⟨⟨_, Try.func2, c2⟩, ⟨_, Try.func3, c3⟩, ⟨_, Try.func4, c4⟩, ⟨_, Try.func5, c5⟩, ⟨_, Try.func6, c6⟩, ⟨_, Try.func7, c7⟩, ⟨_, Try.func8, c8⟩, ⟨_, Try.func17, c17⟩, ⟨_, Try.func29, c29⟩, ⟨_, Try.func30, c30⟩, ⟨_, Try.func33, c33⟩, ⟨_, Try.func36, c36⟩, ⟨_, Try.func37, c37⟩, ⟨_, Try.func38, c38⟩, ⟨_, Try.func39, c39⟩, ⟨_, Try.func56, c56⟩, ⟨_, Try.func57, c57⟩, ⟨_, Try.func61, c61⟩, ⟨_, Try.func62, c62⟩, ⟨_, Try.func64, c64⟩, ⟨_, Try.func66, c66⟩, ⟨_, Try.func68, c68⟩, ⟨_, Try.func78, c78⟩, ⟨_, Try.func79, c79⟩, ⟨_, Try.func82, c82⟩, ⟨_, Try.func83, c83⟩, ⟨_, Try.func84, c84⟩, ⟨_, Try.func86, c86⟩, ⟨_, Try.func88, c88⟩, ⟨_, Try.func89, c89⟩, ⟨_, Try.func90, c90⟩, ⟨_, Try.func91, c91⟩, ⟨_, Try.func95, c95⟩, ⟨_, Try.func96, c96⟩, ⟨_, Try.func104, c104⟩, ⟨_, Try.func112, c112⟩, ⟨_, Try.func113, c113⟩, ⟨_, Try.func115, c115⟩, ⟨_, Try.func116, c116⟩, ⟨_, Try.func117, c117⟩, ⟨_, Try.func118, c118⟩, ⟨_, Try.func119, c119⟩, trivial⟩
def AM : AP := { fns := fun f => lookF f fnsL, prims := primF }
theorem fnsOK : FnsOK Try.prog AM := fun _ _ h => goodL_look goodL h
end Go.Proofs.Ytjldefmcnppdoaa
