/- SquareTells: the row. -/
import Derived.Test.YtjldefmcnppdoaaRows
import Derived.Test.YtjldefmcnppdoaaSquareF
import Derived.Test.YtjldefmcnppdoaaAmLawB
import Derived.Test.YtjldefmcnppdoaaPrims
namespace Go.Proofs.Ytjldefmcnppdoaa
set_option linter.unusedSimpArgs false
set_option linter.unusedVariables false
open Go Go.Am Go.ChangeShapes Go.WideShapes Go.ChangeAt Go.RowKit

theorem Try.own : ownKnob Try.prog.godebug = none := by kernel_rfl
theorem Try.laidOut : laidOutB Try.prog = true := by kernel_rfl

theorem WR_run {A : AP} {fid : FuncId} {vs : List V} {Bs : List Blk} {v : V} {K : KR} (h : WR A fid vs Bs K) (hK : ∀ v' n L, K v' n L → v' = v) : ∃ σ', Run A fid vs Bs = some (v, σ') := by
  obtain ⟨v', σ', n', L', h1, _, h2⟩ := h
  exact ⟨σ', by rw [h1, hK _ _ _ h2]⟩


set_option maxRecDepth 100000 in
theorem squareTells_opened {H : Type} {enc : TypeId × Value → H} {W : World} {base : Nat} {args : Array Value} {ds gs : List (DataW H)} {before : List MemPlace}
    (hval : ∀ (j : Nat) t v, Try.f8.params[j]? = some t → args[j]? = some v → Value.okWide Try.prog W .any base t v) (hW : DataW.Whole enc Try.prog Try.f8.params.toList [] false W args.toList ds gs before) : Opened AM 8 W args := by
  obtain ⟨p, q, hA, hV, _⟩ := hW
  rw [Try.params8] at hA hval
  obtain ⟨v0, v1, v2, v3, v4, d0, d1, d2, d3, d4, p0, p1, p2, p3, p4, rfl, rfl, rfl, t0, t1, t2, t3, t4⟩ := trodAll_five hA
  obtain ⟨x0, hX0, _⟩ := open_i64 Try.underlying3 (hval 0 3 v0 rfl rfl)
  obtain ⟨x1, hX1, hb1⟩ := open_i64 Try.underlying3 (hval 1 3 v1 rfl rfl)
  obtain ⟨x2, hX2, hb2⟩ := open_i64 Try.underlying3 (hval 2 3 v2 rfl rfl)
  obtain ⟨tx, rfl, _⟩ := Go.ChangeMaps.open_string Try.underlying9 (hval 3 9 v3 rfl rfl) t3
  have hTx : ∀ ι, VR ι (.s (.str tx)) (.string tx) := fun ι => by simp [VR, S.val]
  have hflat := fun (n : Nat) (cs : List Value) (y : DataW H × List MemPlace) => trod_intA (H := H) (enc := enc) (P := Try.prog) (W := W) (sp := fun _ => true) (e := 61) (z := 2) Try.underlying61 Try.underlying3 (by kernel_rfl) n cs y
  rcases open_slR (z := 2) Try.underlying57 (by kernel_rfl) (by omega) hflat (hval 4 57 v4 rfl rfl) t4 with h | h | ⟨n, pl, R, hn, hpn, hlt, hc, _, hs⟩
  · obtain ⟨σ', hr⟩ := WR_run (SquareTells_runN x0 x1 x2 hb1 hb2 tx) fun _ _ _ h => h
    exact ⟨noInj, [], _, σ', rel_none W, dom_none, vrl5 (hX0 _) (hX1 _) (hX2 _) (hTx _) (h _), ro_none, hr⟩
  · obtain ⟨σ', hr⟩ := WR_run (SquareTells_runZ x0 x1 x2 hb1 hb2 tx) fun _ _ _ h => h
    exact ⟨noInj, [], _, σ', rel_none W, dom_none, vrl5 (hX0 _) (hX1 _) (hX2 _) (hTx _) (h _), ro_none, hr⟩
  · obtain ⟨σ', hr⟩ := WR_run (SquareTells_run (md := .ro) (c := .unk) (q := pl.n) x0 x1 x2 hb1 hb2 tx R n hn) fun _ _ _ h => h.1
    obtain ⟨hR, hD, hro, _⟩ := rel_ro (rel_none W) dom_none ro_none (p := pl) (g := ia R) hlt (fun i hi => hc i (by omega))
    exact ⟨_, _, _, σ', hR, hD, vrl5 (hX0 _) (hX1 _) (hX2 _) (hTx _) (hs _ 0 (Inj.put_same _ _ _)), hro, hr⟩

def zeros (n : Nat) : Value := .agg (Array.replicate n (.int .i64 0))

set_option maxRecDepth 100000 in
theorem squareTells_lifted (os : Os) (started : os.Started) (H : Type) (enc : TypeId × Value → H) :
    ReturnsInHanded {} Try.checked os 8 .any (Rows.squareTellsSpec.pre6 enc Try.prog Try.f8 Rows.squareTellsRow.domain false) (Rows.squareTellsSpec.post enc Try.prog Try.f8 false true false false) := by
  refine returnsInHanded_of_change (C := Try.checked) Try.own started (by kernel_rfl) Try.func8
    (ChangeSpec.witness6 (enc := enc) (C := Try.checked) false ⟨#[], #[.int .i64 0, .int .i64 0, .int .i64 0, .string ⟨#[]⟩, .slice none 0 0], []⟩ 20 (by kernel_rfl) (by kernel_rfl) (by kernel_rfl) (by kernel_rfl)) ?_
  intro W base args ds gs before hval hW _ _
  have ho := squareTells_opened hval hW
  have hW2 := hW
  obtain ⟨p, q, hA', _⟩ := hW2
  rw [Try.params8] at hA'
  obtain ⟨v0, v1, v2, v3, v4, d0, d1, d2, d3, d4, p0, p1, p2, p3, p4, h, rfl, rfl, t0, t1, t2, t3, t4⟩ := trodAll_five hA'
  exact law_contract runOK Try.laidOut hW rfl rfl (tb := Try.f8.resultTypes[0]!) (by kernel_rfl) (by kernel_rfl) (by kernel_rfl) ho

theorem squareTells_holds : Rows.SquareTellsSaid :=
  OpenClaim.holds_of_wide 8 Try.f8 rfl rfl rfl rfl rfl rfl rfl ⟨rfl, rfl, rfl, rfl, rfl⟩ rfl rfl rfl rfl rfl (by kernel_rfl) Try.func8 (by kernel_rfl)
    (of_decide_eq_true (by kernel_rfl)) (by unfold Func.isWrapper; first | (rw [if_pos (by decide +kernel)]; kernel_rfl) | (rw [if_neg (by decide +kernel)]; exact ⟨rfl, rfl⟩))
    (fun os started H enc _ => squareTells_lifted os started H enc)

end Go.Proofs.Ytjldefmcnppdoaa
