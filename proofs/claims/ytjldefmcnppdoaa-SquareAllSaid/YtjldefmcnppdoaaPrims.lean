/- What stands in for the library's functions is true of them. -/
import Derived.Test.YtjldefmcnppdoaaAmProg
import Derived.Test.YtjldefmcnppdoaaIdxByte
namespace Go.Proofs.Ytjldefmcnppdoaa
open Go Go.Am
theorem idx_ok {args : List V} {σ : Heap} {v : V} {σ' : Heap} (h : idxPrim args σ = some (v, σ')) {ι : Inj} {W : World} {av : List Value} (hR : RelW ι σ W) (hv : VRL ι args av) :
    Calls Try.prog 85 av.toArray W fun e W' => ∃ ι' v', e = .returned v' ∧ VR ι' v v' ∧ Post ι σ W ι' σ' W' := by
  unfold idxPrim at h
  split at h
  · rename_i s c
    injection h with h
    injection h with h1 h2
    subst h1; subst h2
    simp only [VRL] at hv
    obtain ⟨v1, r1, rfl, hv1, v2, r2, rfl, hv2, rfl⟩ := hv
    simp only [VR, S.val] at hv1 hv2
    subst hv1; subst hv2
    refine (Try.strings_IndexByte s c W).mono ?_
    rintro e w' ⟨rfl, rfl⟩
    exact ⟨ι, _, rfl, by simp [VR, S.val], (QPost.refl hR).post⟩
  · cases h
theorem primsOK : PrimsOK Try.prog AM := by
  intro f pf hpf args σ v σ' h
  have hb : primF f = some pf := hpf
  unfold primF at hb
  cases hf : Nat.beq f 85 with
  | false => rw [hf] at hb; cases hb
  | true =>
    rw [hf] at hb
    injection hb with hb
    subst hb
    have := Nat.eq_of_beq_eq_true hf
    subst this
    exact ⟨⟨_, Try.func85, by kernel_rfl, by decide⟩, fun ι W av hR _ hv => idx_ok h hR hv⟩
theorem runOK : RunOK Try.prog (Run AM) := run_ok fnsOK primsOK (by kernel_rfl)
end Go.Proofs.Ytjldefmcnppdoaa
