/- The functions of this seat, as the abstract machine has them, together. -/
import Derived.Test.YtjldefmcnppdoaaAmProg0
import Derived.Test.YtjldefmcnppdoaaAmProg1
import Derived.Test.YtjldefmcnppdoaaAmProg2
import Derived.Test.YtjldefmcnppdoaaAmWpM
import Derived.Test.YtjldefmcnppdoaaPrimD
namespace Go.Proofs.Ytjldefmcnppdoaa
open Go Go.Am
set_option maxRecDepth 100000
def fnsL : List (FuncId × AF) := [(2, a2), (3, a3), (4, a4), (5, a5), (6, a6), (7, a7), (8, a8), (15, a15), (16, a16), (29, a29), (33, a33), (36, a36), (37, a37), (38, a38), (39, a39), (49, a49), (53, a53), (54, a54), (55, a55), (56, a56), (57, a57), (58, a58), (59, a59), (60, a60), (68, a68), (69, a69), (70, a70), (71, a71), (72, a72), (73, a73), (74, a74), (75, a75), (76, a76), (78, a78), (82, a82), (83, a83), (84, a84), (86, a86), (87, a87), (88, a88), (89, a89), (90, a90), (91, a91), (92, a92), (93, a93), (94, a94), (106, a106), (107, a107), (108, a108), (109, a109), (110, a110), (112, a112), (113, a113), (114, a114), (120, a120)]
theorem goodL : GoodL Try.prog fnsL := ⟨⟨_, Try.func2, c2⟩, ⟨_, Try.func3, c3⟩, ⟨_, Try.func4, c4⟩, ⟨_, Try.func5, c5⟩, ⟨_, Try.func6, c6⟩, ⟨_, Try.func7, c7⟩, ⟨_, Try.func8, c8⟩, ⟨_, Try.func15, c15⟩, ⟨_, Try.func16, c16⟩, ⟨_, Try.func29, c29⟩, ⟨_, Try.func33, c33⟩, ⟨_, Try.func36, c36⟩, ⟨_, Try.func37, c37⟩, ⟨_, Try.func38, c38⟩, ⟨_, Try.func39, c39⟩, ⟨_, Try.func49, c49⟩, ⟨_, Try.func53, c53⟩, ⟨_, Try.func54, c54⟩, ⟨_, Try.func55, c55⟩, ⟨_, Try.func56, c56⟩, ⟨_, Try.func57, c57⟩, ⟨_, Try.func58, c58⟩, ⟨_, Try.func59, c59⟩, ⟨_, Try.func60, c60⟩, ⟨_, Try.func68, c68⟩, ⟨_, Try.func69, c69⟩, ⟨_, Try.func70, c70⟩, ⟨_, Try.func71, c71⟩, ⟨_, Try.func72, c72⟩, ⟨_, Try.func73, c73⟩, ⟨_, Try.func74, c74⟩, ⟨_, Try.func75, c75⟩, ⟨_, Try.func76, c76⟩, ⟨_, Try.func78, c78⟩, ⟨_, Try.func82, c82⟩, ⟨_, Try.func83, c83⟩, ⟨_, Try.func84, c84⟩, ⟨_, Try.func86, c86⟩, ⟨_, Try.func87, c87⟩, ⟨_, Try.func88, c88⟩, ⟨_, Try.func89, c89⟩, ⟨_, Try.func90, c90⟩, ⟨_, Try.func91, c91⟩, ⟨_, Try.func92, c92⟩, ⟨_, Try.func93, c93⟩, ⟨_, Try.func94, c94⟩, ⟨_, Try.func106, c106⟩, ⟨_, Try.func107, c107⟩, ⟨_, Try.func108, c108⟩, ⟨_, Try.func109, c109⟩, ⟨_, Try.func110, c110⟩, ⟨_, Try.func112, c112⟩, ⟨_, Try.func113, c113⟩, ⟨_, Try.func114, c114⟩, ⟨_, Try.func120, c120⟩, trivial⟩
def AM : AP := { fns := fun f => lookF f fnsL, prims := primF }
theorem fnsOK : FnsOK Try.prog AM := fun _ _ h => goodL_look goodL h
end Go.Proofs.Ytjldefmcnppdoaa
