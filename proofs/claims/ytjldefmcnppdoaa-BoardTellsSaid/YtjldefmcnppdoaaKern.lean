/- What the kernel tells of a run. -/
import Derived.Test.YtjldefmcnppdoaaAmProg
import Derived.KernelRfl
namespace Go.Proofs.Ytjldefmcnppdoaa
open Go Go.Am
/-- Is the answer this bool? -/
def ansB (b : Bool) : Option (V × Heap) → Bool
  | some (.s (.bool t), _) => t == b
  | _ => false
theorem RF_ans {A : AP} {m : Nat} {fid : FuncId} {xs : List V} {b : Bool} (h : ansB b (runF A m fid xs []) = true) : RF A fid xs (.s (.bool b)) := by
  cases hr : runF A m fid xs [] with
  | none => rw [hr] at h; cases h
  | some r =>
    obtain ⟨v, σ⟩ := r
    rw [hr] at h
    cases v with
    | s x =>
      cases x with
      | bool t =>
        simp only [ansB] at h
        have := eq_of_beq h
        subst this
        exact ⟨σ, Run_of hr⟩
      | _ => cases h
    | _ => cases h
end Go.Proofs.Ytjldefmcnppdoaa
