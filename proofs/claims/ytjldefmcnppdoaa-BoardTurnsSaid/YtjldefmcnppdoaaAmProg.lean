/- The functions of this seat, as the abstract machine has them, together. -/
import Derived.Test.YtjldefmcnppdoaaAmProg0
import Derived.Test.YtjldefmcnppdoaaAmProg1
import Derived.Test.YtjldefmcnppdoaaAmProg2
import Derived.Test.YtjldefmcnppdoaaAmWpM
import Derived.Test.YtjldefmcnppdoaaPrimD
namespace Go.Proofs.Ytjldefmcnppdoaa
open Go Go.Am
set_option maxRecDepth 100000
def fnsL : List (FuncId × AF) := [(2, a2), (3, a3), (4, a4), (5, a5), (6, a6), (7, a7), (8, a8), (11, a11), (30, a30), (33, a33), (36, a36), (37, a37), (38, a38), (39, a39), (49, a49), (53, a53), (54, a54), (55, a55), (56, a56), (57, a57), (58, a58), (60, a60), (78, a78), (82, a82), (83, a83), (84, a84), (86, a86), (87, a87), (88, a88), (89, a89), (90, a90), (91, a91), (94, a94), (112, a112), (113, a113)]
theorem goodL : GoodL Try.prog fnsL := ⟨⟨_, Try.func2, c2⟩, ⟨_, Try.func3, c3⟩, ⟨_, Try.func4, c4⟩, ⟨_, Try.func5, c5⟩, ⟨_, Try.func6, c6⟩, ⟨_, Try.func7, c7⟩, ⟨_, Try.func8, c8⟩, ⟨_, Try.func11, c11⟩, ⟨_, Try.func30, c30⟩, ⟨_, Try.func33, c33⟩, ⟨_, Try.func36, c36⟩, ⟨_, Try.func37, c37⟩, ⟨_, Try.func38, c38⟩, ⟨_, Try.func39, c39⟩, ⟨_, Try.func49, c49⟩, ⟨_, Try.func53, c53⟩, ⟨_, Try.func54, c54⟩, ⟨_, Try.func55, c55⟩, ⟨_, Try.func56, c56⟩, ⟨_, Try.func57, c57⟩, ⟨_, Try.func58, c58⟩, ⟨_, Try.func60, c60⟩, ⟨_, Try.func78, c78⟩, ⟨_, Try.func82, c82⟩, ⟨_, Try.func83, c83⟩, ⟨_, Try.func84, c84⟩, ⟨_, Try.func86, c86⟩, ⟨_, Try.func87, c87⟩, ⟨_, Try.func88, c88⟩, ⟨_, Try.func89, c89⟩, ⟨_, Try.func90, c90⟩, ⟨_, Try.func91, c91⟩, ⟨_, Try.func94, c94⟩, ⟨_, Try.func112, c112⟩, ⟨_, Try.func113, c113⟩, trivial⟩
def AM : AP := { fns := fun f => lookF f fnsL, prims := primF }
theorem fnsOK : FnsOK Try.prog AM := fun _ _ h => goodL_look goodL h
end Go.Proofs.Ytjldefmcnppdoaa
