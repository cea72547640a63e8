/- Texts of this seat, joined. -/
import Derived.ProofKit
import Derived.Test.YtlaogmemhephnaaGreatDoorProg
import Derived.KernelRfl
import Derived.Lib.Bytealg
import Derived.Lib.ItoaNum
import Derived.Shelf.LaysM
import Derived.Shelf.Strings.Builder1
import Derived.Shelf.Strings.Builder2
import Derived.Shelf.Small.Strs
import Derived.Shelf.Strconv.Itoa3
import Derived.Shelf.Strings.Search3
import Derived.Shelf.Strings.SplitShaped
import Derived.LoopN
import Derived.Lib.AppendIntMem
import Derived.Lib.SmallJoins
import Derived.Test.YtlaogmemhephnaaGreatDoorTie
import Derived.Lay
import Derived.LaidMore
import Derived.OpenShut
import Derived.Stop.Joined
import Derived.Test.YtlaogmemhephnaaGreatDoorAm0
import Derived.Test.YtlaogmemhephnaaGreatDoorAm1
import Derived.Test.YtlaogmemhephnaaGreatDoorAm2
namespace Go.Am
open Go Go.RowKit Go.ChangeShapes Go.WideShapes
theorem trodAll_below {H : Type} {enc : TypeId × Value → H} {P : Program} (hl : laidOutB P = true) {W W' : World} (hb : Below W.heap.size W W') : ∀ {ts : List TypeId} {vs : List Value} {ds : List (DataW H)} {ps : List MemPlace},
  DataW.TrodAll enc P W 0 (fun _ => true) true ts vs ds ps → (ts.all fun t => P.readableRec t && decide (t < P.types.size)) = true → (∀ x ∈ ps, x.block < W.heap.size) →
  DataW.TrodAll enc P W' 0 (fun b => decide (b < W.heap.size)) true ts vs ds ps
 | [], [], [], ps, h, _, _ => h
 | t :: ts, v :: vs, d :: ds, ps, h, hr, hlt => by
  obtain ⟨p, q, h1, h2, rfl⟩ := h
  simp only [List.all_cons, Bool.and_eq_true, decide_eq_true_eq] at hr
  exact ⟨p, q, Below.trod hl hr.1.1 hr.1.2 h1 hb (fun x hx => hlt x (List.mem_append.2 (.inl hx))), trodAll_below hl hb h2 hr.2 (fun x hx => hlt x (List.mem_append.2 (.inr hx))), rfl⟩
 | [], [], _ :: _, _, h, _, _ => h.elim
 | [], _ :: _, _, _, h, _, _ => h.elim
 | _ :: _, [], _, _, h, _, _ => h.elim
 | _ :: _, _ :: _, [], _, h, _, _ => h.elim
def Opened [Bas] (A : AP) (f : FuncId) (W : World) (args : Array Value) : Prop :=
 ∃ ι σ av σ', RelW ι σ W ∧ Dom ι σ ∧ VRL ι av args.toList ∧ (∀ b, ¬ mutb σ b) ∧ Run A f av σ = some (.s (.bool true), σ')
theorem law_contract [Bas] {H : Type} {enc : TypeId × Value → H} {P : Program} {A : AP} (hr : RunOK P (Run A)) (hl : laidOutB P = true) {f : FuncId} {fn : Func} {s : ChangeSpec} {apart : Bool} {W : World} {args : Array Value} {ds gs : List (DataW H)} {before : List MemPlace} {tb : TypeId}
  (hW : DataW.Whole enc P fn.params.toList s.vars apart W args.toList ds gs before) (hv : s.vars = []) (hs : s.fn H ds = { results := [.lit (.bool true)], args := ds }) (hrt : fn.resultTypes = #[tb]) (htb : P.underlying tb = some .bool)
  (hts : (fn.params.toList.all fun t => P.readableRec t && decide (t < P.types.size)) = true) (ho : Opened A f W args) :
  Calls P f args W fun e W' => ∃ v, e = .returned v ∧ s.post enc P fn apart true false false W args v W' := by
 obtain ⟨ι, σ, av, σ', hR, hD, hvr, hro, hrun⟩ := ho
 have h := law_calls hr hrun hR hD hvr hro
 rw [Array.toArray_toList] at h
 refine h.mono ?_
 rintro e W' ⟨rfl, hb⟩
 refine ⟨_, rfl, ?_⟩
 have hlt := hW.lt
 have hW' := hW
 obtain ⟨p, q, hA, hV, rfl, hfz, hnd⟩ := hW'
 rw [hv] at hV
 have hgs : gs = [] ∧ q = [] := by
  cases gs with
  | nil => exact ⟨rfl, hV⟩
  | cons _ _ => exact hV.elim
 obtain ⟨rfl, rfl⟩ := hgs
 rw [List.append_nil] at hlt
 refine ⟨ds, [], p ++ [], [], p, [], hW, ?_, ?_, ?_, hb.frame _, fun h => nomatch h⟩
 ·rw [List.append_nil, hs, hrt]
  exact trodAll_mk1 ⟨1, by simp [DataW.trod, Value.cells, htb]⟩
 ·rw [List.append_nil, hs]
  exact trodAll_below hl hb hA hts hlt
 ·rw [List.append_nil, hs, hv]
  rfl
def flatI (P : Program) (t : TypeId) (n : Nat) : Bool :=
 match P.underlying t with
 | some (.struct _) | some (.array _ _) => P.cellsOf t == n && (match P.cellTypes P.depth t with
  | some ts => ts.all fun u => match P.underlying u with
   | some (.int .i64) => true
   | _ => false
  | none => false)
 | _ => false
def intAt (cs : Array Value) (n : Nat) : Nat → Int := fun i => if i < n then (match cs[i]? with
 | some (.int _ x) => x
 | _ => 0) else 0
def noInj : Inj := fun _ => none
theorem rel_none (W : World) : @RelW ⟨W⟩ noInj [] W := @RelW.mk ⟨W⟩ _ _ _ (fun _ _ h => by simp [noInj] at h) (fun _ _ _ h => by simp [noInj] at h) (fun _ _ _ _ h => by simp [noInj] at h) (fun _ _ h => by simp [noInj] at h) (Nat.le_refl _) (fun _ _ => rfl)
theorem dom_none : Dom noInj [] := fun _ _ h => by simp [noInj] at h
theorem ro_none : ∀ b, ¬ mutb [] b := fun b ⟨x, hx, _⟩ => by simp at hx
end Go.Am
namespace Go.Am
open Go Go.RowKit Go.ChangeShapes Go.WideShapes
def intOfV : Option Value → Int
 | some (.int _ x) => x
 | _ => 0
end Go.Am
namespace Go.Proofs.YtlaogmemhephnaaGreatDoor
open Go Go.Am
set_option maxRecDepth 100000
def a3 : AF := ⟨12, [.tmp 2],
 (.seq (.ops [⟨some 2, none, .p (.mv (.k (.s (.bool false))))⟩])
 (.seq (.seq (.ops [⟨some 3, none, .p (.mv (.t 0))⟩,
 ⟨some 4, none, .p (.lenS (.t 3))⟩,
 ⟨some 5, none, .p (.bin .gtr (.t 4) (.k (.s (.int .i64 1000))))⟩])
 (.cond (.t 5)
 (.seq (.ops [⟨some 6, none, .h (.call (.k (.fn 5 [])) [])⟩,
 ⟨some 2, none, .p (.mv (.t 6))⟩])
 .ret)
 .skip))
 (.seq (.ops [⟨some 7, none, .p (.mv (.t 0))⟩,
 ⟨some 8, none, .h (.call (.k (.fn 6 [])) [(.t 7)])⟩,
 ⟨some 9, none, .p (.mv (.t 8))⟩,
 ⟨some 10, some (9, true), .h (.call (.k (.fn 5 [])) [])⟩,
 ⟨some 11, none, .p (.pick (.t 9) (.t 10) (.k (.s (.bool false))))⟩,
 ⟨some 2, none, .p (.mv (.t 11))⟩])
 .ret)))⟩
theorem c3 : compF Tryz.prog false Tryz.f3 = some a3 := by kernel_rfl
def a4 : AF := ⟨180, [.tmp 0],
 (.seq (.ops [⟨some 0, none, .p (.mv (.k (.s (.bool false))))⟩])
 (.seq (.ops [⟨some 15, none, .h (.call (.k (.fn 7 [])) [])⟩,
 ⟨some 1, none, .p (.mv (.t 15))⟩])
 (.seq (.ops [⟨some 2, none, .p (.mv (.k (.s (.str ⟨#[47, 56, 112, 80, 75, 49, 32, 119, 45, 98, 57, 101, 51, 48, 107, 113, 0]⟩))))⟩])
 (.seq (.seq (.ops [⟨some 3, none, .p (.mv (.k (.s (.int .i64 0))))⟩])
 (.block 0 (.loop (.seq (.seq (.ops [⟨some 16, none, .p (.mv (.t 3))⟩,
 ⟨some 17, none, .p (.mv (.t 1))⟩,
 ⟨some 18, none, .p (.lenS (.t 17))⟩,
 ⟨some 19, none, .p (.bin .leq (.t 16) (.t 18))⟩])
 (.cond (.t 19)
 .skip
 (.exit 0)))
 (.seq (.block 1 (.seq (.seq (.ops [⟨some 22, none, .p (.mv (.t 1))⟩,
 ⟨some 23, none, .p (.mv (.t 3))⟩,
 ⟨some 24, none, .p (.slS (.t 22) none (some (.t 23)))⟩,
 ⟨some 25, none, .h (.call (.k (.fn 6 [])) [(.t 24)])⟩,
 ⟨some 26, none, .p (.un .not (.t 25))⟩,
 ⟨some 27, none, .p (.mv (.t 26))⟩,
 ⟨some 28, some (27, false), .p (.mv (.t 1))⟩,
 ⟨some 29, some (27, false), .p (.mv (.t 3))⟩,
 ⟨some 30, some (27, false), .p (.slS (.t 28) (some (.t 29)) none)⟩,
 ⟨some 31, some (27, false), .h (.call (.k (.fn 6 [])) [(.t 30)])⟩,
 ⟨some 32, some (27, false), .p (.un .not (.t 31))⟩,
 ⟨some 33, none, .p (.pick (.t 27) (.k (.s (.bool true))) (.t 32))⟩])
 (.cond (.t 33)
 (.seq (.ops [⟨some 0, none, .p (.mv (.k (.s (.bool false))))⟩])
 .ret)
 .skip))
 (.seq (.ops [⟨some 4, none, .p (.mv (.k (.s (.int .i64 0))))⟩])
 (.block 2 (.loop (.seq (.seq (.ops [⟨some 34, none, .p (.mv (.t 4))⟩,
 ⟨some 35, none, .p (.mv (.t 2))⟩,
 ⟨some 36, none, .p (.lenS (.t 35))⟩,
 ⟨some 37, none, .p (.bin .lss (.t 34) (.t 36))⟩])
 (.cond (.t 37)
 .skip
 (.exit 2)))
 (.seq (.block 3 (.seq (.par [⟨some 40, none, .p (.mv (.t 1))⟩,
 ⟨some 41, none, .p (.mv (.t 3))⟩,
 ⟨some 42, none, .p (.slS (.t 40) none (some (.t 41)))⟩,
 ⟨some 43, none, .p (.mv (.t 2))⟩,
 ⟨some 44, none, .p (.mv (.t 4))⟩,
 ⟨some 45, none, .p (.mv (.t 4))⟩,
 ⟨some 46, none, .p (.bin .add (.t 45) (.k (.s (.int .i64 1))))⟩,
 ⟨some 47, none, .p (.slS (.t 43) (some (.t 44)) (some (.t 46)))⟩,
 ⟨some 48, none, .p (.bin .add (.t 42) (.t 47))⟩,
 ⟨some 49, none, .p (.mv (.t 1))⟩,
 ⟨some 50, none, .p (.mv (.t 3))⟩,
 ⟨some 51, none, .p (.slS (.t 49) (some (.t 50)) none)⟩,
 ⟨some 52, none, .p (.bin .add (.t 48) (.t 51))⟩,
 ⟨some 53, none, .h (.call (.k (.fn 6 [])) [(.t 52)])⟩,
 ⟨some 54, none, .p (.un .not (.t 53))⟩,
 ⟨some 55, none, .p (.mv (.t 54))⟩,
 ⟨some 56, some (55, false), .p (.mv (.t 3))⟩,
 ⟨some 57, some (55, false), .p (.mv (.t 1))⟩,
 ⟨some 58, some (55, false), .p (.lenS (.t 57))⟩,
 ⟨some 59, some (55, false), .p (.bin .lss (.t 56) (.t 58))⟩,
 ⟨some 60, some (55, false), .p (.mv (.t 59))⟩,
 ⟨some 61, some (60, true), .p (.mv (.t 1))⟩,
 ⟨some 62, some (60, true), .p (.mv (.t 3))⟩,
 ⟨some 63, some (60, true), .p (.slS (.t 61) none (some (.t 62)))⟩,
 ⟨some 64, some (60, true), .p (.mv (.t 2))⟩,
 ⟨some 65, some (60, true), .p (.mv (.t 4))⟩,
 ⟨some 66, some (60, true), .p (.mv (.t 4))⟩,
 ⟨some 67, some (60, true), .p (.bin .add (.t 66) (.k (.s (.int .i64 1))))⟩,
 ⟨some 68, some (60, true), .p (.slS (.t 64) (some (.t 65)) (some (.t 67)))⟩,
 ⟨some 69, some (60, true), .p (.bin .add (.t 63) (.t 68))⟩,
 ⟨some 70, some (60, true), .p (.mv (.t 1))⟩,
 ⟨some 71, some (60, true), .p (.mv (.t 3))⟩,
 ⟨some 72, some (60, true), .p (.bin .add (.t 71) (.k (.s (.int .i64 1))))⟩,
 ⟨some 73, some (60, true), .p (.slS (.t 70) (some (.t 72)) none)⟩,
 ⟨some 74, some (60, true), .p (.bin .add (.t 69) (.t 73))⟩,
 ⟨some 75, some (60, true), .h (.call (.k (.fn 6 [])) [(.t 74)])⟩,
 ⟨some 76, some (60, true), .p (.un .not (.t 75))⟩,
 ⟨some 77, some (60, true), .p (.mv (.t 76))⟩,
 ⟨some 78, some (77, false), .p (.mv (.t 1))⟩,
 ⟨some 79, some (77, false), .p (.mv (.t 3))⟩,
 ⟨some 80, some (77, false), .p (.slS (.t 78) none (some (.t 79)))⟩,
 ⟨some 81, some (77, false), .p (.mv (.t 1))⟩,
 ⟨some 82, some (77, false), .p (.mv (.t 3))⟩,
 ⟨some 83, some (77, false), .p (.bin .add (.t 82) (.k (.s (.int .i64 1))))⟩,
 ⟨some 84, some (77, false), .p (.slS (.t 81) (some (.t 83)) none)⟩,
 ⟨some 85, some (77, false), .p (.bin .add (.t 80) (.t 84))⟩,
 ⟨some 86, some (77, false), .h (.call (.k (.fn 6 [])) [(.t 85)])⟩,
 ⟨some 87, some (77, false), .p (.un .not (.t 86))⟩,
 ⟨some 88, some (60, true), .p (.pick (.t 77) (.k (.s (.bool true))) (.t 87))⟩,
 ⟨some 89, some (55, false), .p (.pick (.t 60) (.t 88) (.k (.s (.bool false))))⟩,
 ⟨some 90, none, .p (.pick (.t 55) (.k (.s (.bool true))) (.t 89))⟩])
 (.cond (.t 90)
 (.seq (.ops [⟨some 0, none, .p (.mv (.k (.s (.bool false))))⟩])
 .ret)
 .skip)))
 (.ops [⟨some 38, none, .p (.mv (.t 4))⟩,
 ⟨some 39, none, .p (.bin .add (.t 38) (.k (.s (.int .i64 1))))⟩,
 ⟨some 4, none, .p (.mv (.t 39))⟩]))))))))
 (.ops [⟨some 20, none, .p (.mv (.t 3))⟩,
 ⟨some 21, none, .p (.bin .add (.t 20) (.k (.s (.int .i64 1))))⟩,
 ⟨some 3, none, .p (.mv (.t 21))⟩]))))))
 (.seq (.ops [⟨some 91, none, .h (.mksl 7 1 (.one (.s (.str ⟨#[]⟩))) [(0, (.k (.s (.str ⟨#[52, 107, 51, 47, 56, 47, 56, 47, 56, 47, 56, 47, 56, 47, 56, 47, 52, 75, 51]⟩)))), (1, (.k (.s (.str ⟨#[52, 107, 51, 47, 52, 52, 47, 56, 47, 56, 47, 56, 47, 56, 47, 56, 47, 52, 75, 51]⟩)))), (2, (.k (.s (.str ⟨#[52, 107, 51, 47, 112, 54, 80, 47, 57, 47, 56, 47, 56, 47, 56, 47, 56, 47, 52, 75, 51]⟩)))), (3, (.k (.s (.str ⟨#[52, 107, 50, 114, 47, 56, 47, 56, 47, 51, 80, 112, 51, 47, 56, 47, 56, 47, 56, 47, 82, 51, 75, 50, 82]⟩)))), (4, (.k (.s (.str ⟨#[107, 55, 47, 56, 47, 56, 47, 56, 47, 56, 47, 56, 47, 56, 47, 75, 54]⟩)))), (5, (.k (.s (.str ⟨#[56, 47, 56, 47, 56, 47, 56, 47, 56, 47, 56, 47, 56, 47, 56]⟩)))), (6, (.k (.s (.str ⟨#[52, 107, 51, 47, 56, 47, 56, 47, 51, 80, 112, 51, 47, 52, 80, 51, 47, 56, 47, 56, 47, 52, 75, 51]⟩))))])⟩,
 ⟨some 5, none, .p (.mv (.t 91))⟩])
 (.seq (.ops [⟨some 92, none, .h (.mksl 5 1 (.one (.s (.str ⟨#[]⟩))) [(0, (.k (.s (.str ⟨#[119]⟩)))), (1, (.k (.s (.str ⟨#[98]⟩)))), (2, (.k (.s (.str ⟨#[45]⟩)))), (3, (.k (.s (.str ⟨#[87]⟩)))), (4, (.k (.s (.str ⟨#[]⟩))))])⟩,
 ⟨some 6, none, .p (.mv (.t 92))⟩])
 (.seq (.ops [⟨some 93, none, .h (.mksl 10 1 (.one (.s (.str ⟨#[]⟩))) [(0, (.k (.s (.str ⟨#[45]⟩)))), (1, (.k (.s (.str ⟨#[75, 81, 107, 113]⟩)))), (2, (.k (.s (.str ⟨#[75]⟩)))), (3, (.k (.s (.str ⟨#[75, 81]⟩)))), (4, (.k (.s (.str ⟨#[107]⟩)))), (5, (.k (.s (.str ⟨#[113, 107]⟩)))), (6, (.k (.s (.str ⟨#[75, 75]⟩)))), (7, (.k (.s (.str ⟨#[81, 75]⟩)))), (8, (.k (.s (.str ⟨#[45, 75]⟩)))), (9, (.k (.s (.str ⟨#[]⟩))))])⟩,
 ⟨some 7, none, .p (.mv (.t 93))⟩])
 (.seq (.ops [⟨some 94, none, .h (.mksl 7 1 (.one (.s (.str ⟨#[]⟩))) [(0, (.k (.s (.str ⟨#[45]⟩)))), (1, (.k (.s (.str ⟨#[101, 54]⟩)))), (2, (.k (.s (.str ⟨#[101, 51]⟩)))), (3, (.k (.s (.str ⟨#[105, 49]⟩)))), (4, (.k (.s (.str ⟨#[101, 57]⟩)))), (5, (.k (.s (.str ⟨#[101]⟩)))), (6, (.k (.s (.str ⟨#[97, 49]⟩))))])⟩,
 ⟨some 8, none, .p (.mv (.t 94))⟩])
 (.seq (.ops [⟨some 95, none, .h (.mksl 13 1 (.one (.s (.str ⟨#[]⟩))) [(0, (.k (.s (.str ⟨#[48, 32, 49]⟩)))), (1, (.k (.s (.str ⟨#[49, 48, 50, 52, 32, 49, 54, 51, 56, 52]⟩)))), (2, (.k (.s (.str ⟨#[49, 48, 50, 53, 32, 49]⟩)))), (3, (.k (.s (.str ⟨#[48, 32, 49, 54, 51, 56, 53]⟩)))), (4, (.k (.s (.str ⟨#[48, 48, 32, 49]⟩)))), (5, (.k (.s (.str ⟨#[48, 32, 48, 49]⟩)))), (6, (.k (.s (.str ⟨#[55]⟩)))), (7, (.k (.s (.str ⟨#[49, 50, 51, 52, 53, 54, 32, 49]⟩)))), (8, (.k (.s (.str ⟨#[49, 50, 51, 52, 53, 54, 55, 32, 49]⟩)))), (9, (.k (.s (.str ⟨#[48, 32, 48]⟩)))), (10, (.k (.s (.str ⟨#[48, 32, 49, 32]⟩)))), (11, (.k (.s (.str ⟨#[32, 48, 32, 49]⟩)))), (12, (.k (.s (.str ⟨#[45, 49, 32, 49]⟩))))])⟩,
 ⟨some 9, none, .p (.mv (.t 95))⟩])
 (.seq (.seq (.ops [⟨some 10, none, .p (.mv (.k (.s (.int .i64 0))))⟩])
 (.block 4 (.loop (.seq (.seq (.ops [⟨some 96, none, .p (.mv (.t 10))⟩,
 ⟨some 97, none, .p (.bin .lss (.t 96) (.k (.s (.int .i64 31850))))⟩])
 (.cond (.t 97)
 .skip
 (.exit 4)))
 (.seq (.block 5 (.seq (.seq (.ops [⟨some 100, none, .p (.mv (.t 10))⟩,
 ⟨some 101, none, .p (.bin .rem (.t 100) (.k (.s (.int .i64 7))))⟩,
 ⟨some 102, none, .p (.bin .gtr (.t 101) (.k (.s (.int .i64 0))))⟩,
 ⟨some 103, none, .p (.mv (.t 102))⟩,
 ⟨some 104, some (103, true), .p (.mv (.t 10))⟩,
 ⟨some 105, some (103, true), .p (.bin .rem (.t 104) (.k (.s (.int .i64 31))))⟩,
 ⟨some 106, some (103, true), .p (.bin .gtr (.t 105) (.k (.s (.int .i64 0))))⟩,
 ⟨some 107, none, .p (.pick (.t 103) (.t 106) (.k (.s (.bool false))))⟩])
 (.cond (.t 107)
 (.exit 5)
 .skip))
 (.seq (.par [⟨some 108, none, .p (.mv (.t 5))⟩,
 ⟨some 109, none, .p (.mv (.t 10))⟩,
 ⟨some 110, none, .p (.bin .rem (.t 109) (.k (.s (.int .i64 7))))⟩,
 ⟨some 111, none, .p (.ixs 1 (.t 108) (.t 110))⟩,
 ⟨some 112, none, .h (.load false 1 (.t 111))⟩,
 ⟨some 113, none, .p (.bin .add (.t 112) (.k (.s (.str ⟨#[32]⟩))))⟩,
 ⟨some 114, none, .p (.mv (.t 6))⟩,
 ⟨some 115, none, .p (.mv (.t 10))⟩,
 ⟨some 116, none, .p (.bin .quo (.t 115) (.k (.s (.int .i64 7))))⟩,
 ⟨some 117, none, .p (.bin .rem (.t 116) (.k (.s (.int .i64 5))))⟩,
 ⟨some 118, none, .p (.ixs 1 (.t 114) (.t 117))⟩,
 ⟨some 119, none, .h (.load false 1 (.t 118))⟩,
 ⟨some 120, none, .p (.bin .add (.t 113) (.t 119))⟩,
 ⟨some 121, none, .p (.bin .add (.t 120) (.k (.s (.str ⟨#[32]⟩))))⟩,
 ⟨some 122, none, .p (.mv (.t 7))⟩,
 ⟨some 123, none, .p (.mv (.t 10))⟩,
 ⟨some 124, none, .p (.bin .quo (.t 123) (.k (.s (.int .i64 35))))⟩,
 ⟨some 125, none, .p (.bin .rem (.t 124) (.k (.s (.int .i64 10))))⟩,
 ⟨some 126, none, .p (.ixs 1 (.t 122) (.t 125))⟩,
 ⟨some 127, none, .h (.load false 1 (.t 126))⟩,
 ⟨some 128, none, .p (.bin .add (.t 121) (.t 127))⟩,
 ⟨some 129, none, .p (.bin .add (.t 128) (.k (.s (.str ⟨#[32]⟩))))⟩,
 ⟨some 130, none, .p (.mv (.t 8))⟩,
 ⟨some 131, none, .p (.mv (.t 10))⟩,
 ⟨some 132, none, .p (.bin .quo (.t 131) (.k (.s (.int .i64 350))))⟩,
 ⟨some 133, none, .p (.bin .rem (.t 132) (.k (.s (.int .i64 7))))⟩,
 ⟨some 134, none, .p (.ixs 1 (.t 130) (.t 133))⟩,
 ⟨some 135, none, .h (.load false 1 (.t 134))⟩,
 ⟨some 136, none, .p (.bin .add (.t 129) (.t 135))⟩,
 ⟨some 137, none, .p (.bin .add (.t 136) (.k (.s (.str ⟨#[32]⟩))))⟩,
 ⟨some 138, none, .p (.mv (.t 9))⟩,
 ⟨some 139, none, .p (.mv (.t 10))⟩,
 ⟨some 140, none, .p (.bin .quo (.t 139) (.k (.s (.int .i64 2450))))⟩,
 ⟨some 141, none, .p (.ixs 1 (.t 138) (.t 140))⟩,
 ⟨some 142, none, .h (.load false 1 (.t 141))⟩,
 ⟨some 143, none, .p (.bin .add (.t 137) (.t 142))⟩,
 ⟨some 11, none, .p (.mv (.t 143))⟩])
 (.seq (.ops [⟨some 144, none, .p (.mv (.t 11))⟩,
 ⟨some 145, none, .h (.call (.k (.fn 6 [])) [(.t 144)])⟩,
 ⟨some 146, none, .p (.un .not (.t 145))⟩])
 (.cond (.t 146)
 (.seq (.ops [⟨some 0, none, .p (.mv (.k (.s (.bool false))))⟩])
 .ret)
 .skip)))))
 (.ops [⟨some 98, none, .p (.mv (.t 10))⟩,
 ⟨some 99, none, .p (.bin .add (.t 98) (.k (.s (.int .i64 1))))⟩,
 ⟨some 10, none, .p (.mv (.t 99))⟩]))))))
 (.seq (.ops [⟨some 147, none, .p (.mv (.t 1))⟩,
 ⟨some 12, none, .p (.mv (.t 147))⟩])
 (.seq (.block 6 (.loop (.seq (.seq (.ops [⟨some 148, none, .p (.mv (.t 12))⟩,
 ⟨some 149, none, .p (.lenS (.t 148))⟩,
 ⟨some 150, none, .p (.bin .lss (.t 149) (.k (.s (.int .i64 131))))⟩])
 (.cond (.t 150)
 .skip
 (.exit 6)))
 (.block 7 (.seq (.ops [⟨some 151, none, .p (.mv (.t 12))⟩,
 ⟨some 152, none, .p (.bin .add (.t 151) (.k (.s (.str ⟨#[49]⟩))))⟩,
 ⟨some 12, none, .p (.mv (.t 152))⟩])
 (.seq (.ops [⟨some 153, none, .p (.mv (.t 12))⟩,
 ⟨some 154, none, .p (.lenS (.t 153))⟩,
 ⟨some 155, none, .p (.bin .gtr (.t 154) (.k (.s (.int .i64 125))))⟩,
 ⟨some 156, none, .p (.mv (.t 155))⟩,
 ⟨some 157, some (156, true), .p (.mv (.t 12))⟩,
 ⟨some 158, some (156, true), .h (.call (.k (.fn 6 [])) [(.t 157)])⟩,
 ⟨some 159, some (156, true), .p (.un .not (.t 158))⟩,
 ⟨some 160, none, .p (.pick (.t 156) (.t 159) (.k (.s (.bool false))))⟩])
 (.cond (.t 160)
 (.seq (.ops [⟨some 0, none, .p (.mv (.k (.s (.bool false))))⟩])
 .ret)
 .skip)))))))
 (.seq (.ops [⟨some 161, none, .h (.call (.k (.fn 8 [])) [])⟩,
 ⟨some 13, none, .h (.alloc (.ints 133))⟩,
 ⟨none, none, .h (.store 133 (.t 13) (.t 161))⟩])
 (.seq (.seq (.ops [⟨some 14, none, .p (.mv (.k (.s (.int .i64 0))))⟩])
 (.block 8 (.loop (.seq (.seq (.ops [⟨some 162, none, .p (.mv (.t 14))⟩,
 ⟨some 163, none, .p (.bin .lss (.t 162) (.k (.s (.int .i64 16))))⟩])
 (.cond (.t 163)
 .skip
 (.exit 8)))
 (.seq (.block 9 (.seq (.ops [⟨some 166, none, .p (.mv (.t 14))⟩,
 ⟨some 167, none, .p (.fa 129 1 (.t 13))⟩,
 ⟨none, none, .h (.store 1 (.t 167) (.t 166))⟩])
 (.seq (.ops [⟨some 168, none, .h (.load true 133 (.t 13))⟩,
 ⟨some 169, none, .h (.call (.k (.fn 9 [])) [(.t 168)])⟩,
 ⟨some 170, none, .p (.un .not (.t 169))⟩])
 (.cond (.t 170)
 (.seq (.ops [⟨some 0, none, .p (.mv (.k (.s (.bool false))))⟩])
 .ret)
 .skip))))
 (.ops [⟨some 164, none, .p (.mv (.t 14))⟩,
 ⟨some 165, none, .p (.bin .add (.t 164) (.k (.s (.int .i64 1))))⟩,
 ⟨some 14, none, .p (.mv (.t 165))⟩]))))))
 (.seq (.ops [⟨some 171, none, .p (.fa 132 1 (.t 13))⟩,
 ⟨none, none, .h (.store 1 (.t 171) (.k (.s (.int .i64 0))))⟩])
 (.seq (.ops [⟨some 172, none, .h (.load true 133 (.t 13))⟩,
 ⟨some 173, none, .h (.call (.k (.fn 9 [])) [(.t 172)])⟩,
 ⟨some 174, none, .p (.mv (.t 173))⟩,
 ⟨some 175, some (174, true), .h (.call (.k (.fn 3 [])) [(.k (.s (.str ⟨#[]⟩)))])⟩,
 ⟨some 176, none, .p (.pick (.t 174) (.t 175) (.k (.s (.bool false))))⟩,
 ⟨some 177, none, .p (.mv (.t 176))⟩,
 ⟨some 178, some (177, true), .h (.call (.k (.fn 5 [])) [])⟩,
 ⟨some 179, none, .p (.pick (.t 177) (.t 178) (.k (.s (.bool false))))⟩,
 ⟨some 0, none, .p (.mv (.t 179))⟩])
 .ret))))))))))))))))⟩
theorem c4 : compF Tryz.prog false Tryz.f4 = some a4 := by kernel_rfl
def a5 : AF := ⟨33, [.tmp 0],
 (.seq (.ops [⟨some 0, none, .p (.mv (.k (.s (.bool false))))⟩])
 (.seq (.ops [⟨some 7, none, .h (.call (.k (.fn 8 [])) [])⟩,
 ⟨some 8, none, .h (.call (.k (.fn 10 [])) [(.t 7)])⟩,
 ⟨some 6, none, .p (.mv (.t 8))⟩,
 ⟨some 9, none, .p (.ext (.t 6) 0)⟩,
 ⟨some 10, none, .p (.ext (.t 6) 1)⟩,
 ⟨some 1, none, .p (.mv (.t 9))⟩,
 ⟨some 2, none, .p (.mv (.t 10))⟩])
 (.seq (.ops [⟨some 12, none, .p (.mv (.t 1))⟩,
 ⟨some 13, none, .h (.call (.k (.fn 11 [])) [(.t 12)])⟩,
 ⟨some 11, none, .p (.mv (.t 13))⟩,
 ⟨some 14, none, .p (.ext (.t 11) 0)⟩,
 ⟨some 15, none, .p (.ext (.t 11) 1)⟩,
 ⟨some 16, none, .p (.ext (.t 11) 2)⟩,
 ⟨some 3, none, .h (.alloc (.ints 133))⟩,
 ⟨none, none, .h (.store 133 (.t 3) (.t 14))⟩,
 ⟨some 4, none, .p (.mv (.t 15))⟩,
 ⟨some 5, none, .p (.mv (.t 16))⟩])
 (.seq (.par [⟨some 17, none, .p (.mv (.t 2))⟩,
 ⟨some 18, none, .p (.bin .eql (.t 17) (.k (.s (.int .i64 0))))⟩,
 ⟨some 19, none, .p (.mv (.t 18))⟩,
 ⟨some 20, some (19, true), .p (.mv (.t 1))⟩,
 ⟨some 21, some (19, true), .h (.call (.k (.fn 7 [])) [])⟩,
 ⟨some 22, some (19, true), .p (.bin .eql (.t 20) (.t 21))⟩,
 ⟨some 23, none, .p (.pick (.t 19) (.t 22) (.k (.s (.bool false))))⟩,
 ⟨some 24, none, .p (.mv (.t 23))⟩,
 ⟨some 25, some (24, true), .p (.mv (.t 5))⟩,
 ⟨some 26, some (24, true), .p (.bin .eql (.t 25) (.k (.s (.int .i64 0))))⟩,
 ⟨some 27, none, .p (.pick (.t 24) (.t 26) (.k (.s (.bool false))))⟩,
 ⟨some 28, none, .p (.mv (.t 27))⟩,
 ⟨some 29, some (28, true), .h (.load true 133 (.t 3))⟩,
 ⟨some 30, some (28, true), .h (.callq (.k (.fn 8 [])) [])⟩,
 ⟨some 31, some (28, true), .p (.eqa false 133 (.t 29) (.t 30))⟩,
 ⟨some 32, none, .p (.pick (.t 28) (.t 31) (.k (.s (.bool false))))⟩,
 ⟨some 0, none, .p (.mv (.t 32))⟩])
 .ret))))⟩
theorem c5 : compF Tryz.prog false Tryz.f5 = some a5 := by kernel_rfl
def a6 : AF := ⟨41, [.tmp 2],
 (.seq (.ops [⟨some 2, none, .p (.mv (.k (.s (.bool false))))⟩])
 (.seq (.ops [⟨some 10, none, .p (.mv (.t 0))⟩,
 ⟨some 11, none, .h (.call (.k (.fn 11 [])) [(.t 10)])⟩,
 ⟨some 9, none, .p (.mv (.t 11))⟩,
 ⟨some 12, none, .p (.ext (.t 9) 0)⟩,
 ⟨some 13, none, .p (.ext (.t 9) 1)⟩,
 ⟨some 14, none, .p (.ext (.t 9) 2)⟩,
 ⟨some 3, none, .h (.alloc (.ints 133))⟩,
 ⟨none, none, .h (.store 133 (.t 3) (.t 12))⟩,
 ⟨some 4, none, .p (.mv (.t 13))⟩,
 ⟨some 5, none, .p (.mv (.t 14))⟩])
 (.seq (.ops [⟨some 16, none, .p (.mv (.t 0))⟩,
 ⟨some 17, none, .h (.call (.k (.fn 12 [])) [(.t 16)])⟩,
 ⟨some 15, none, .p (.mv (.t 17))⟩,
 ⟨some 18, none, .p (.ext (.t 15) 0)⟩,
 ⟨some 19, none, .p (.ext (.t 15) 1)⟩,
 ⟨some 20, none, .p (.ext (.t 15) 2)⟩,
 ⟨some 6, none, .h (.alloc (.ints 133))⟩,
 ⟨none, none, .h (.store 133 (.t 6) (.t 18))⟩,
 ⟨some 7, none, .p (.mv (.t 19))⟩,
 ⟨some 8, none, .p (.mv (.t 20))⟩])
 (.seq (.ops [⟨some 21, none, .h (.load true 133 (.t 3))⟩,
 ⟨some 22, none, .h (.load true 133 (.t 6))⟩,
 ⟨some 23, none, .p (.eqa false 133 (.t 21) (.t 22))⟩,
 ⟨some 24, none, .p (.mv (.t 23))⟩,
 ⟨some 25, some (24, true), .p (.mv (.t 4))⟩,
 ⟨some 26, some (24, true), .p (.mv (.t 7))⟩,
 ⟨some 27, some (24, true), .p (.bin .eql (.t 25) (.t 26))⟩,
 ⟨some 28, none, .p (.pick (.t 24) (.t 27) (.k (.s (.bool false))))⟩,
 ⟨some 29, none, .p (.mv (.t 28))⟩,
 ⟨some 30, some (29, true), .p (.mv (.t 5))⟩,
 ⟨some 31, some (29, true), .p (.mv (.t 8))⟩,
 ⟨some 32, some (29, true), .p (.bin .eql (.t 30) (.t 31))⟩,
 ⟨some 33, none, .p (.pick (.t 29) (.t 32) (.k (.s (.bool false))))⟩,
 ⟨some 34, none, .p (.mv (.t 33))⟩,
 ⟨some 35, some (34, true), .p (.mv (.t 0))⟩,
 ⟨some 36, some (34, true), .h (.call (.k (.fn 14 [])) [(.t 35)])⟩,
 ⟨some 37, some (34, true), .p (.mv (.t 0))⟩,
 ⟨some 38, some (34, true), .h (.call (.k (.fn 15 [])) [(.t 37)])⟩,
 ⟨some 39, some (34, true), .h (.call (.k (.fn 13 [])) [(.t 36), (.t 38)])⟩,
 ⟨some 40, none, .p (.pick (.t 34) (.t 39) (.k (.s (.bool false))))⟩,
 ⟨some 2, none, .p (.mv (.t 40))⟩])
 .ret))))⟩
theorem c6 : compF Tryz.prog false Tryz.f6 = some a6 := by kernel_rfl
def a7 : AF := ⟨1, [.tmp 0],
 (.seq (.ops [⟨some 0, none, .p (.mv (.k (.s (.str ⟨#[]⟩))))⟩])
 (.seq (.ops [⟨some 0, none, .p (.mv (.k (.s (.str ⟨#[114, 110, 98, 113, 107, 98, 110, 114, 47, 112, 112, 112, 112, 112, 112, 112, 112, 47, 56, 47, 56, 47, 56, 47, 56, 47, 80, 80, 80, 80, 80, 80, 80, 80, 47, 82, 78, 66, 81, 75, 66, 78, 82, 32, 119, 32, 75, 81, 107, 113, 32, 45, 32, 48, 32, 49]⟩))))⟩])
 .ret))⟩
theorem c7 : compF Tryz.prog false Tryz.f7 = some a7 := by kernel_rfl
def a8 : AF := ⟨39, [.cell 0 true 133],
 (.seq (.ops [⟨some 0, none, .h (.alloc (.ints 133))⟩])
 (.seq (.ops [⟨some 4, none, .h (.call (.k (.fn 16 [])) [])⟩,
 ⟨some 1, none, .h (.alloc (.ints 133))⟩,
 ⟨none, none, .h (.store 133 (.t 1) (.t 4))⟩])
 (.seq (.ops [⟨some 5, none, .h (.mksl 8 1 (.one (.s (.int .i64 0))) [(0, (.k (.s (.int .i64 4)))), (1, (.k (.s (.int .i64 2)))), (2, (.k (.s (.int .i64 3)))), (3, (.k (.s (.int .i64 5)))), (4, (.k (.s (.int .i64 6)))), (5, (.k (.s (.int .i64 3)))), (6, (.k (.s (.int .i64 2)))), (7, (.k (.s (.int .i64 4))))])⟩,
 ⟨some 2, none, .p (.mv (.t 5))⟩])
 (.seq (.seq (.ops [⟨some 3, none, .p (.mv (.k (.s (.int .i64 0))))⟩])
 (.block 0 (.loop (.seq (.seq (.ops [⟨some 6, none, .p (.mv (.t 3))⟩,
 ⟨some 7, none, .p (.bin .lss (.t 6) (.k (.s (.int .i64 8))))⟩])
 (.cond (.t 7)
 .skip
 (.exit 0)))
 (.seq (.block 1 (.seq (.ops [⟨some 10, none, .p (.mv (.t 3))⟩,
 ⟨some 11, none, .p (.mv (.t 2))⟩,
 ⟨some 12, none, .p (.mv (.t 3))⟩,
 ⟨some 13, none, .p (.ixs 1 (.t 11) (.t 12))⟩,
 ⟨some 14, none, .h (.load false 1 (.t 13))⟩,
 ⟨some 15, none, .p (.build (.ints 2) [(0, 1, (.t 14)), (1, 1, (.k (.s (.int .i64 0))))])⟩,
 ⟨some 16, none, .p (.fa 0 128 (.t 1))⟩,
 ⟨some 17, none, .p (.ixa 64 2 (.t 16) (.t 10))⟩,
 ⟨none, none, .h (.store 2 (.t 17) (.t 15))⟩])
 (.seq (.ops [⟨some 18, none, .p (.mv (.t 3))⟩,
 ⟨some 19, none, .p (.bin .add (.k (.s (.int .i64 8))) (.t 18))⟩,
 ⟨some 20, none, .p (.build (.ints 2) [(0, 1, (.k (.s (.int .i64 1)))), (1, 1, (.k (.s (.int .i64 0))))])⟩,
 ⟨some 21, none, .p (.fa 0 128 (.t 1))⟩,
 ⟨some 22, none, .p (.ixa 64 2 (.t 21) (.t 19))⟩,
 ⟨none, none, .h (.store 2 (.t 22) (.t 20))⟩])
 (.seq (.ops [⟨some 23, none, .p (.mv (.t 3))⟩,
 ⟨some 24, none, .p (.bin .add (.k (.s (.int .i64 48))) (.t 23))⟩,
 ⟨some 25, none, .p (.build (.ints 2) [(0, 1, (.k (.s (.int .i64 1)))), (1, 1, (.k (.s (.int .i64 1))))])⟩,
 ⟨some 26, none, .p (.fa 0 128 (.t 1))⟩,
 ⟨some 27, none, .p (.ixa 64 2 (.t 26) (.t 24))⟩,
 ⟨none, none, .h (.store 2 (.t 27) (.t 25))⟩])
 (.ops [⟨some 28, none, .p (.mv (.t 3))⟩,
 ⟨some 29, none, .p (.bin .add (.k (.s (.int .i64 56))) (.t 28))⟩,
 ⟨some 30, none, .p (.mv (.t 2))⟩,
 ⟨some 31, none, .p (.mv (.t 3))⟩,
 ⟨some 32, none, .p (.ixs 1 (.t 30) (.t 31))⟩,
 ⟨some 33, none, .h (.load false 1 (.t 32))⟩,
 ⟨some 34, none, .p (.build (.ints 2) [(0, 1, (.t 33)), (1, 1, (.k (.s (.int .i64 1))))])⟩,
 ⟨some 35, none, .p (.fa 0 128 (.t 1))⟩,
 ⟨some 36, none, .p (.ixa 64 2 (.t 35) (.t 29))⟩,
 ⟨none, none, .h (.store 2 (.t 36) (.t 34))⟩])))))
 (.ops [⟨some 8, none, .p (.mv (.t 3))⟩,
 ⟨some 9, none, .p (.bin .add (.t 8) (.k (.s (.int .i64 1))))⟩,
 ⟨some 3, none, .p (.mv (.t 9))⟩]))))))
 (.seq (.ops [⟨some 37, none, .p (.fa 129 1 (.t 1))⟩,
 ⟨none, none, .h (.store 1 (.t 37) (.k (.s (.int .i64 15))))⟩])
 (.seq (.ops [⟨some 38, none, .h (.load true 133 (.t 1))⟩,
 ⟨none, none, .h (.store 133 (.t 0) (.t 38))⟩])
 .ret))))))⟩
theorem c8 : compF Tryz.prog false Tryz.f8 = some a8 := by kernel_rfl
def a9 : AF := ⟨28, [.tmp 2],
 (.seq (.ops [⟨some 1, none, .h (.box (.t 0))⟩,
 ⟨some 2, none, .p (.mv (.k (.s (.bool false))))⟩])
 (.seq (.ops [⟨some 8, none, .h (.load true 133 (.t 1))⟩,
 ⟨some 9, none, .h (.call (.k (.fn 10 [])) [(.t 8)])⟩,
 ⟨some 7, none, .p (.mv (.t 9))⟩,
 ⟨some 10, none, .p (.ext (.t 7) 0)⟩,
 ⟨some 11, none, .p (.ext (.t 7) 1)⟩,
 ⟨some 3, none, .p (.mv (.t 10))⟩,
 ⟨some 4, none, .p (.mv (.t 11))⟩])
 (.seq (.ops [⟨some 13, none, .h (.load true 133 (.t 1))⟩,
 ⟨some 14, none, .h (.call (.k (.fn 17 [])) [(.t 13)])⟩,
 ⟨some 12, none, .p (.mv (.t 14))⟩,
 ⟨some 15, none, .p (.ext (.t 12) 0)⟩,
 ⟨some 16, none, .p (.ext (.t 12) 1)⟩,
 ⟨some 5, none, .p (.mv (.t 15))⟩,
 ⟨some 6, none, .p (.mv (.t 16))⟩])
 (.seq (.ops [⟨some 17, none, .p (.mv (.t 3))⟩,
 ⟨some 18, none, .p (.mv (.t 5))⟩,
 ⟨some 19, none, .p (.bin .eql (.t 17) (.t 18))⟩,
 ⟨some 20, none, .p (.mv (.t 19))⟩,
 ⟨some 21, some (20, true), .p (.mv (.t 4))⟩,
 ⟨some 22, some (20, true), .p (.mv (.t 6))⟩,
 ⟨some 23, some (20, true), .p (.bin .eql (.t 21) (.t 22))⟩,
 ⟨some 24, none, .p (.pick (.t 20) (.t 23) (.k (.s (.bool false))))⟩,
 ⟨some 25, none, .p (.mv (.t 24))⟩,
 ⟨some 26, some (25, true), .h (.call (.k (.fn 5 [])) [])⟩,
 ⟨some 27, none, .p (.pick (.t 25) (.t 26) (.k (.s (.bool false))))⟩,
 ⟨some 2, none, .p (.mv (.t 27))⟩])
 .ret))))⟩
theorem c9 : compF Tryz.prog false Tryz.f9 = some a9 := by kernel_rfl
def a10 : AF := ⟨59, [.tmp 2, .tmp 3],
 (.seq (.ops [⟨some 1, none, .h (.box (.t 0))⟩,
 ⟨some 2, none, .p (.mv (.k (.s (.str ⟨#[]⟩))))⟩,
 ⟨some 3, none, .p (.mv (.k (.s (.int .i64 0))))⟩])
 (.seq (.seq (.ops [⟨some 8, none, .h (.load true 133 (.t 1))⟩,
 ⟨some 9, none, .h (.call (.k (.fn 18 [])) [(.t 8)])⟩,
 ⟨some 10, none, .p (.un .not (.t 9))⟩])
 (.cond (.t 10)
 (.seq (.ops [⟨some 2, none, .p (.mv (.k (.s (.str ⟨#[]⟩))))⟩,
 ⟨some 3, none, .p (.mv (.k (.s (.int .i64 2))))⟩])
 .ret)
 .skip))
 (.seq (.ops [⟨some 4, none, .p (.mv (.k .snil))⟩])
 (.seq (.seq (.ops [⟨some 5, none, .p (.mv (.k (.s (.int .i64 7))))⟩])
 (.block 0 (.loop (.seq (.seq (.ops [⟨some 11, none, .p (.mv (.t 5))⟩,
 ⟨some 12, none, .p (.bin .geq (.t 11) (.k (.s (.int .i64 0))))⟩])
 (.cond (.t 12)
 .skip
 (.exit 0)))
 (.seq (.block 1 (.ops [⟨some 15, none, .p (.mv (.t 4))⟩,
 ⟨some 16, none, .h (.load true 133 (.t 1))⟩,
 ⟨some 17, none, .p (.mv (.t 5))⟩,
 ⟨some 18, none, .h (.call (.k (.fn 19 [])) [(.t 16), (.t 17)])⟩,
 ⟨some 19, none, .h (.mksl 1 1 (.one (.s (.str ⟨#[]⟩))) [(0, (.t 18))])⟩,
 ⟨some 20, none, .h (.append 1 16 (.t 15) (.t 19))⟩,
 ⟨some 4, none, .p (.mv (.t 20))⟩]))
 (.ops [⟨some 13, none, .p (.mv (.t 5))⟩,
 ⟨some 14, none, .p (.bin .sub (.t 13) (.k (.s (.int .i64 1))))⟩,
 ⟨some 5, none, .p (.mv (.t 14))⟩]))))))
 (.seq (.ops [⟨some 6, none, .p (.mv (.k (.s (.str ⟨#[]⟩))))⟩])
 (.seq (.seq (.ops [⟨some 21, none, .h (.rng (.k (.s (.str ⟨#[75, 81, 107, 113]⟩))))⟩])
 (.block 2 (.loop (.seq (.ops [⟨some 22, none, .h (.nxt (.t 21))⟩,
 ⟨some 23, none, .p (.ext (.t 22) 0)⟩])
 (.seq (.cond (.t 23)
 .skip
 (.exit 2))
 (.block 3 (.seq (.ops [⟨some 24, none, .p (.ext (.t 22) 1)⟩,
 ⟨some 7, none, .p (.mv (.t 24))⟩])
 (.seq (.ops [⟨some 25, none, .p (.fa 129 1 (.t 1))⟩,
 ⟨some 26, none, .h (.load false 1 (.t 25))⟩,
 ⟨some 27, none, .p (.mv (.t 7))⟩,
 ⟨some 28, none, .p (.bin .shr (.t 26) (.t 27))⟩,
 ⟨some 29, none, .p (.bin .and (.t 28) (.k (.s (.int .i64 1))))⟩,
 ⟨some 30, none, .p (.bin .eql (.t 29) (.k (.s (.int .i64 1))))⟩])
 (.cond (.t 30)
 (.ops [⟨some 31, none, .p (.mv (.t 6))⟩,
 ⟨some 32, none, .p (.mv (.t 7))⟩,
 ⟨some 33, none, .p (.mv (.t 7))⟩,
 ⟨some 34, none, .p (.bin .add (.t 33) (.k (.s (.int .i64 1))))⟩,
 ⟨some 35, none, .p (.slS (.k (.s (.str ⟨#[75, 81, 107, 113]⟩))) (some (.t 32)) (some (.t 34)))⟩,
 ⟨some 36, none, .p (.bin .add (.t 31) (.t 35))⟩,
 ⟨some 6, none, .p (.mv (.t 36))⟩])
 .skip)))))))))
 (.seq (.par [⟨some 37, none, .p (.mv (.t 4))⟩,
 ⟨some 38, none, .h (.callq (.k (.fn 20 [])) [(.t 37), (.k (.s (.str ⟨#[47]⟩)))])⟩,
 ⟨some 39, none, .p (.fa 128 1 (.t 1))⟩,
 ⟨some 40, none, .h (.load false 1 (.t 39))⟩,
 ⟨some 41, none, .p (.fa 128 1 (.t 1))⟩,
 ⟨some 42, none, .h (.load false 1 (.t 41))⟩,
 ⟨some 43, none, .p (.bin .add (.t 42) (.k (.s (.int .i64 1))))⟩,
 ⟨some 44, none, .p (.slS (.k (.s (.str ⟨#[119, 98]⟩))) (some (.t 40)) (some (.t 43)))⟩,
 ⟨some 45, none, .p (.mv (.t 6))⟩,
 ⟨some 46, none, .h (.callq (.k (.fn 21 [])) [(.t 45)])⟩,
 ⟨some 47, none, .p (.fa 130 1 (.t 1))⟩,
 ⟨some 48, none, .h (.load false 1 (.t 47))⟩,
 ⟨some 49, none, .h (.callq (.k (.fn 22 [])) [(.t 48)])⟩,
 ⟨some 50, none, .h (.callq (.k (.fn 21 [])) [(.t 49)])⟩,
 ⟨some 51, none, .p (.fa 131 1 (.t 1))⟩,
 ⟨some 52, none, .h (.load false 1 (.t 51))⟩,
 ⟨some 53, none, .h (.callq (.k (.fn 23 [])) [(.t 52)])⟩,
 ⟨some 54, none, .p (.fa 132 1 (.t 1))⟩,
 ⟨some 55, none, .h (.load false 1 (.t 54))⟩,
 ⟨some 56, none, .h (.callq (.k (.fn 23 [])) [(.t 55)])⟩,
 ⟨some 57, none, .h (.mksl 6 1 (.one (.s (.str ⟨#[]⟩))) [(0, (.t 38)), (1, (.t 44)), (2, (.t 46)), (3, (.t 50)), (4, (.t 53)), (5, (.t 56))])⟩,
 ⟨some 58, none, .h (.call (.k (.fn 20 [])) [(.t 57), (.k (.s (.str ⟨#[32]⟩)))])⟩,
 ⟨some 2, none, .p (.mv (.t 58))⟩,
 ⟨some 3, none, .p (.mv (.k (.s (.int .i64 0))))⟩])
 .ret)))))))⟩
theorem c10 : compF Tryz.prog false Tryz.f10 = some a10 := by kernel_rfl
def a11 : AF := ⟨28, [.cell 2 true 133, .cell 3 false 1, .cell 4 false 1],
 (.seq (.ops [⟨some 2, none, .h (.alloc (.ints 133))⟩,
 ⟨some 3, none, .h (.alloc (.one (.s (.int .i64 0))))⟩,
 ⟨some 4, none, .h (.alloc (.one (.s (.int .i64 0))))⟩])
 (.seq (.seq (.ops [⟨some 6, none, .p (.mv (.t 0))⟩,
 ⟨some 7, none, .p (.lenS (.t 6))⟩,
 ⟨some 8, none, .p (.bin .gtr (.t 7) (.k (.s (.int .i64 128))))⟩])
 (.cond (.t 8)
 (.seq (.ops [⟨some 9, none, .h (.load true 133 (.t 2))⟩,
 ⟨none, none, .h (.store 133 (.t 2) (.t 9))⟩,
 ⟨none, none, .h (.store 1 (.t 3) (.k (.s (.int .i64 0))))⟩,
 ⟨none, none, .h (.store 1 (.t 4) (.k (.s (.int .i64 3))))⟩])
 .ret)
 .skip))
 (.seq (.ops [⟨some 10, none, .p (.mkfn 24 [(.t 2), (.t 3), (.t 4)])⟩,
 ⟨none, none, .h (.bad)⟩])
 (.seq (.ops [⟨some 11, none, .p (.mv (.t 0))⟩,
 ⟨some 12, none, .p (.build (.scl [(.str ⟨#[]⟩), (.int .i64 0)]) [(0, 1, (.t 11)), (1, 1, (.k (.s (.int .i64 0))))])⟩,
 ⟨some 13, none, .p (.build (.scl [(.str ⟨#[]⟩), (.int .i64 0), (.int .i64 0), (.int .i64 0), (.int .i64 0), (.int .i64 0), (.int .i64 0), (.int .i64 0), (.int .i64 0), (.int .i64 0), (.int .i64 0), (.int .i64 0), (.int .i64 0), (.int .i64 0), (.int .i64 0), (.int .i64 0), (.int .i64 0), (.int .i64 0), (.int .i64 0), (.int .i64 0), (.int .i64 0), (.int .i64 0), (.int .i64 0), (.int .i64 0), (.int .i64 0), (.int .i64 0), (.int .i64 0), (.int .i64 0), (.int .i64 0), (.int .i64 0), (.int .i64 0), (.int .i64 0), (.int .i64 0), (.int .i64 0), (.int .i64 0), (.int .i64 0), (.int .i64 0), (.int .i64 0), (.int .i64 0), (.int .i64 0), (.int .i64 0), (.int .i64 0), (.int .i64 0), (.int .i64 0), (.int .i64 0), (.int .i64 0), (.int .i64 0), (.int .i64 0), (.int .i64 0), (.int .i64 0), (.int .i64 0), (.int .i64 0), (.int .i64 0), (.int .i64 0), (.int .i64 0), (.int .i64 0), (.int .i64 0), (.int .i64 0), (.int .i64 0), (.int .i64 0), (.int .i64 0), (.int .i64 0), (.int .i64 0), (.int .i64 0), (.int .i64 0), (.int .i64 0), (.int .i64 0), (.int .i64 0), (.int .i64 0), (.int .i64 0), (.int .i64 0), (.int .i64 0), (.int .i64 0), (.int .i64 0), (.int .i64 0), (.int .i64 0), (.int .i64 0), (.int .i64 0), (.int .i64 0), (.int .i64 0), (.int .i64 0), (.int .i64 0), (.int .i64 0), (.int .i64 0), (.int .i64 0), (.int .i64 0), (.int .i64 0), (.int .i64 0), (.int .i64 0), (.int .i64 0), (.int .i64 0), (.int .i64 0), (.int .i64 0), (.int .i64 0), (.int .i64 0), (.int .i64 0), (.int .i64 0), (.int .i64 0), (.int .i64 0), (.int .i64 0), (.int .i64 0), (.int .i64 0), (.int .i64 0), (.int .i64 0), (.int .i64 0), (.int .i64 0), (.int .i64 0), (.int .i64 0), (.int .i64 0), (.int .i64 0), (.int .i64 0), (.int .i64 0), (.int .i64 0), (.int .i64 0), (.int .i64 0), (.int .i64 0), (.int .i64 0), (.int .i64 0), (.int .i64 0), (.int .i64 0), (.int .i64 0), (.int .i64 0), (.int .i64 0), (.int .i64 0), (.int .i64 0), (.int .i64 0), (.int .i64 0), (.int .i64 0), (.int .i64 0), (.int .i64 0), (.int .i64 0), (.int .i64 0), (.int .i64 0), (.int .i64 0), (.int .i64 0)]) [(0, 2, (.t 12))])⟩,
 ⟨some 14, none, .h (.box (.t 13))⟩,
 ⟨some 5, none, .p (.mv (.t 14))⟩])
 (.seq (.ops [⟨some 15, none, .p (.mv (.t 5))⟩,
 ⟨some 16, none, .h (.call (.k (.fn 25 [])) [(.t 15)])⟩])
 (.seq (.seq (.ops [⟨some 17, none, .p (.mv (.t 5))⟩,
 ⟨some 18, none, .p (.nilck (.t 17))⟩,
 ⟨some 19, none, .p (.fa 2 133 (.t 18))⟩,
 ⟨some 20, none, .h (.load true 133 (.t 19))⟩,
 ⟨some 21, none, .h (.call (.k (.fn 18 [])) [(.t 20)])⟩,
 ⟨some 22, none, .p (.un .not (.t 21))⟩])
 (.cond (.t 22)
 (.seq (.ops [⟨some 23, none, .h (.load true 133 (.t 2))⟩,
 ⟨none, none, .h (.store 133 (.t 2) (.t 23))⟩,
 ⟨none, none, .h (.store 1 (.t 3) (.k (.s (.int .i64 0))))⟩,
 ⟨none, none, .h (.store 1 (.t 4) (.k (.s (.int .i64 2))))⟩])
 .ret)
 .skip))
 (.seq (.ops [⟨some 24, none, .p (.mv (.t 5))⟩,
 ⟨some 25, none, .p (.nilck (.t 24))⟩,
 ⟨some 26, none, .p (.fa 2 133 (.t 25))⟩,
 ⟨some 27, none, .h (.load true 133 (.t 26))⟩,
 ⟨none, none, .h (.store 133 (.t 2) (.t 27))⟩,
 ⟨none, none, .h (.store 1 (.t 3) (.k (.s (.int .i64 0))))⟩,
 ⟨none, none, .h (.store 1 (.t 4) (.k (.s (.int .i64 0))))⟩])
 .ret)))))))⟩
theorem c11 : compF Tryz.prog false Tryz.f11 = some a11 := by kernel_rfl
def a12 : AF := ⟨74, [.cell 2 true 133, .tmp 3, .tmp 4],
 (.seq (.ops [⟨some 2, none, .h (.alloc (.ints 133))⟩,
 ⟨some 3, none, .p (.mv (.k (.s (.int .i64 0))))⟩,
 ⟨some 4, none, .p (.mv (.k (.s (.int .i64 0))))⟩])
 (.seq (.seq (.ops [⟨some 8, none, .p (.mv (.t 0))⟩,
 ⟨some 9, none, .p (.lenS (.t 8))⟩,
 ⟨some 10, none, .p (.bin .gtr (.t 9) (.k (.s (.int .i64 128))))⟩])
 (.cond (.t 10)
 (.seq (.ops [⟨some 11, none, .p (.build (.ints 133) [])⟩,
 ⟨none, none, .h (.store 133 (.t 2) (.t 11))⟩,
 ⟨some 3, none, .p (.mv (.k (.s (.int .i64 0))))⟩,
 ⟨some 4, none, .p (.mv (.k (.s (.int .i64 3))))⟩])
 .ret)
 .skip))
 (.seq (.ops [⟨some 5, none, .h (.alloc (.ints 133))⟩])
 (.seq (.ops [⟨some 12, none, .p (.mv (.t 0))⟩,
 ⟨some 13, none, .p (.build (.scl [(.str ⟨#[]⟩), (.int .i64 0), (.bool false)]) [(0, 1, (.t 12))])⟩,
 ⟨some 14, none, .h (.box (.t 13))⟩,
 ⟨some 6, none, .p (.mv (.t 14))⟩])
 (.seq (.seq (.ops [⟨some 7, none, .p (.mv (.k (.s (.int .i64 7))))⟩])
 (.block 0 (.loop (.seq (.seq (.ops [⟨some 15, none, .p (.mv (.t 7))⟩,
 ⟨some 16, none, .p (.bin .geq (.t 15) (.k (.s (.int .i64 0))))⟩])
 (.cond (.t 16)
 .skip
 (.exit 0)))
 (.seq (.block 1 (.seq (.ops [⟨some 19, none, .p (.mv (.t 6))⟩,
 ⟨some 20, none, .p (.mv (.t 7))⟩,
 ⟨some 21, none, .h (.call (.k (.fn 26 [])) [(.t 19), (.t 5), (.t 20)])⟩])
 (.seq (.ops [⟨some 22, none, .p (.mv (.t 7))⟩,
 ⟨some 23, none, .p (.bin .gtr (.t 22) (.k (.s (.int .i64 0))))⟩])
 (.cond (.t 23)
 (.ops [⟨some 24, none, .p (.mv (.t 6))⟩,
 ⟨some 25, none, .h (.call (.k (.fn 27 [])) [(.t 24), (.k (.s (.str ⟨#[47]⟩)))])⟩])
 .skip))))
 (.ops [⟨some 17, none, .p (.mv (.t 7))⟩,
 ⟨some 18, none, .p (.bin .sub (.t 17) (.k (.s (.int .i64 1))))⟩,
 ⟨some 7, none, .p (.mv (.t 18))⟩]))))))
 (.seq (.ops [⟨some 26, none, .p (.mv (.t 6))⟩,
 ⟨some 27, none, .h (.call (.k (.fn 27 [])) [(.t 26), (.k (.s (.str ⟨#[32]⟩)))])⟩])
 (.seq (.ops [⟨some 28, none, .p (.mv (.t 6))⟩,
 ⟨some 29, none, .h (.call (.k (.fn 27 [])) [(.t 28), (.k (.s (.str ⟨#[119, 98]⟩)))])⟩,
 ⟨some 30, none, .p (.fa 128 1 (.t 5))⟩,
 ⟨none, none, .h (.store 1 (.t 30) (.t 29))⟩])
 (.seq (.ops [⟨some 31, none, .p (.mv (.t 6))⟩,
 ⟨some 32, none, .h (.call (.k (.fn 27 [])) [(.t 31), (.k (.s (.str ⟨#[32]⟩)))])⟩])
 (.seq (.ops [⟨some 33, none, .p (.mv (.t 6))⟩,
 ⟨some 34, none, .h (.call (.k (.fn 28 [])) [(.t 33)])⟩,
 ⟨some 35, none, .p (.fa 129 1 (.t 5))⟩,
 ⟨none, none, .h (.store 1 (.t 35) (.t 34))⟩])
 (.seq (.ops [⟨some 36, none, .p (.mv (.t 6))⟩,
 ⟨some 37, none, .h (.call (.k (.fn 27 [])) [(.t 36), (.k (.s (.str ⟨#[32]⟩)))])⟩])
 (.seq (.ops [⟨some 38, none, .p (.mv (.t 6))⟩,
 ⟨some 39, none, .h (.call (.k (.fn 29 [])) [(.t 38)])⟩,
 ⟨some 40, none, .p (.fa 130 1 (.t 5))⟩,
 ⟨none, none, .h (.store 1 (.t 40) (.t 39))⟩])
 (.seq (.ops [⟨some 41, none, .p (.mv (.t 6))⟩,
 ⟨some 42, none, .h (.call (.k (.fn 27 [])) [(.t 41), (.k (.s (.str ⟨#[32]⟩)))])⟩])
 (.seq (.ops [⟨some 43, none, .p (.mv (.t 6))⟩,
 ⟨some 44, none, .h (.call (.k (.fn 30 [])) [(.t 43)])⟩,
 ⟨some 45, none, .p (.fa 131 1 (.t 5))⟩,
 ⟨none, none, .h (.store 1 (.t 45) (.t 44))⟩])
 (.seq (.ops [⟨some 46, none, .p (.mv (.t 6))⟩,
 ⟨some 47, none, .h (.call (.k (.fn 27 [])) [(.t 46), (.k (.s (.str ⟨#[32]⟩)))])⟩])
 (.seq (.ops [⟨some 48, none, .p (.mv (.t 6))⟩,
 ⟨some 49, none, .h (.call (.k (.fn 30 [])) [(.t 48)])⟩,
 ⟨some 50, none, .p (.fa 132 1 (.t 5))⟩,
 ⟨none, none, .h (.store 1 (.t 50) (.t 49))⟩])
 (.seq (.seq (.ops [⟨some 51, none, .p (.mv (.t 6))⟩,
 ⟨some 52, none, .p (.nilck (.t 51))⟩,
 ⟨some 53, none, .p (.fa 2 1 (.t 52))⟩,
 ⟨some 54, none, .h (.load false 1 (.t 53))⟩,
 ⟨some 55, none, .p (.mv (.t 54))⟩,
 ⟨some 56, some (55, false), .p (.mv (.t 6))⟩,
 ⟨some 57, some (55, false), .p (.nilck (.t 56))⟩,
 ⟨some 58, some (55, false), .p (.fa 1 1 (.t 57))⟩,
 ⟨some 59, some (55, false), .h (.load false 1 (.t 58))⟩,
 ⟨some 60, some (55, false), .p (.mv (.t 0))⟩,
 ⟨some 61, some (55, false), .p (.lenS (.t 60))⟩,
 ⟨some 62, some (55, false), .p (.bin .lss (.t 59) (.t 61))⟩,
 ⟨some 63, none, .p (.pick (.t 55) (.k (.s (.bool true))) (.t 62))⟩])
 (.cond (.t 63)
 (.seq (.parc [[0, 1, 2, 3, 4, 5, 6, 7], [0, 1, 2, 3, 5, 4, 6, 7], [0, 1, 2, 5, 3, 4, 6, 7], [0, 1, 5, 2, 3, 4, 6, 7], [0, 5, 1, 2, 3, 4, 6, 7], [1, 0, 2, 3, 4, 5, 6, 7], [1, 0, 2, 3, 5, 4, 6, 7], [1, 0, 2, 5, 3, 4, 6, 7], [1, 0, 5, 2, 3, 4, 6, 7], [1, 2, 0, 3, 4, 5, 6, 7], [1, 2, 0, 3, 5, 4, 6, 7], [1, 2, 0, 5, 3, 4, 6, 7], [1, 2, 3, 0, 4, 5, 6, 7], [1, 2, 3, 0, 5, 4, 6, 7], [1, 2, 3, 4, 0, 5, 6, 7]] [⟨some 64, none, .p (.build (.ints 133) [])⟩,
 ⟨some 65, none, .p (.mv (.t 6))⟩,
 ⟨some 66, none, .p (.nilck (.t 65))⟩,
 ⟨some 67, none, .p (.fa 1 1 (.t 66))⟩,
 ⟨some 68, none, .h (.load false 1 (.t 67))⟩,
 ⟨none, none, .h (.store 133 (.t 2) (.t 64))⟩,
 ⟨some 3, none, .p (.mv (.t 68))⟩,
 ⟨some 4, none, .p (.mv (.k (.s (.int .i64 13))))⟩])
 .ret)
 .skip))
 (.seq (.seq (.ops [⟨some 69, none, .h (.load true 133 (.t 5))⟩,
 ⟨some 70, none, .h (.call (.k (.fn 31 [])) [(.t 69)])⟩,
 ⟨some 71, none, .p (.un .not (.t 70))⟩])
 (.cond (.t 71)
 (.seq (.ops [⟨some 72, none, .p (.build (.ints 133) [])⟩,
 ⟨none, none, .h (.store 133 (.t 2) (.t 72))⟩,
 ⟨some 3, none, .p (.mv (.k (.s (.int .i64 0))))⟩,
 ⟨some 4, none, .p (.mv (.k (.s (.int .i64 2))))⟩])
 .ret)
 .skip))
 (.seq (.ops [⟨some 73, none, .h (.load true 133 (.t 5))⟩,
 ⟨none, none, .h (.store 133 (.t 2) (.t 73))⟩,
 ⟨some 3, none, .p (.mv (.k (.s (.int .i64 0))))⟩,
 ⟨some 4, none, .p (.mv (.k (.s (.int .i64 0))))⟩])
 .ret))))))))))))))))))⟩
theorem c12 : compF Tryz.prog true Tryz.f12 = some a12 := by kernel_rfl
def a13 : AF := ⟨26, [.tmp 4],
 (.seq (.ops [⟨some 4, none, .p (.mv (.k (.s (.bool false))))⟩])
 (.seq (.seq (.ops [⟨some 6, none, .p (.mv (.t 0))⟩,
 ⟨some 7, none, .p (.len (.t 6))⟩,
 ⟨some 8, none, .p (.mv (.t 1))⟩,
 ⟨some 9, none, .p (.len (.t 8))⟩,
 ⟨some 10, none, .p (.bin .neq (.t 7) (.t 9))⟩])
 (.cond (.t 10)
 (.seq (.ops [⟨some 4, none, .p (.mv (.k (.s (.bool false))))⟩])
 .ret)
 .skip))
 (.seq (.seq (.ops [⟨some 5, none, .p (.mv (.k (.s (.int .i64 0))))⟩])
 (.block 0 (.loop (.seq (.seq (.ops [⟨some 11, none, .p (.mv (.t 5))⟩,
 ⟨some 12, none, .p (.mv (.t 0))⟩,
 ⟨some 13, none, .p (.len (.t 12))⟩,
 ⟨some 14, none, .p (.bin .lss (.t 11) (.t 13))⟩])
 (.cond (.t 14)
 .skip
 (.exit 0)))
 (.seq (.block 1 (.seq (.par [⟨some 17, none, .p (.mv (.t 0))⟩,
 ⟨some 18, none, .p (.mv (.t 5))⟩,
 ⟨some 19, none, .p (.ixs 1 (.t 17) (.t 18))⟩,
 ⟨some 20, none, .h (.load false 1 (.t 19))⟩,
 ⟨some 21, none, .p (.mv (.t 1))⟩,
 ⟨some 22, none, .p (.mv (.t 5))⟩,
 ⟨some 23, none, .p (.ixs 1 (.t 21) (.t 22))⟩,
 ⟨some 24, none, .h (.load false 1 (.t 23))⟩,
 ⟨some 25, none, .p (.bin .neq (.t 20) (.t 24))⟩])
 (.cond (.t 25)
 (.seq (.ops [⟨some 4, none, .p (.mv (.k (.s (.bool false))))⟩])
 .ret)
 .skip)))
 (.ops [⟨some 15, none, .p (.mv (.t 5))⟩,
 ⟨some 16, none, .p (.bin .add (.t 15) (.k (.s (.int .i64 1))))⟩,
 ⟨some 5, none, .p (.mv (.t 16))⟩]))))))
 (.seq (.ops [⟨some 4, none, .p (.mv (.k (.s (.bool true))))⟩])
 .ret))))⟩
theorem c13 : compF Tryz.prog false Tryz.f13 = some a13 := by kernel_rfl
def a14 : AF := ⟨5, [.tmp 2],
 (.seq (.ops [⟨some 2, none, .p (.mv (.k .snil))⟩])
 (.seq (.ops [⟨some 3, none, .p (.mv (.t 0))⟩,
 ⟨some 4, none, .h (.call (.k (.fn 32 [])) [(.t 3), (.k (.s (.str ⟨#[32]⟩)))])⟩,
 ⟨some 2, none, .p (.mv (.t 4))⟩])
 .ret))⟩
theorem c14 : compF Tryz.prog false Tryz.f14 = some a14 := by kernel_rfl
def a15 : AF := ⟨32, [.tmp 2],
 (.seq (.ops [⟨some 2, none, .p (.mv (.k .snil))⟩])
 (.seq (.ops [⟨some 3, none, .p (.mv (.k .snil))⟩])
 (.seq (.ops [⟨some 4, none, .p (.mv (.k (.s (.int .i64 0))))⟩])
 (.seq (.seq (.ops [⟨some 5, none, .p (.mv (.k (.s (.int .i64 0))))⟩])
 (.block 0 (.loop (.seq (.seq (.ops [⟨some 6, none, .p (.mv (.t 5))⟩,
 ⟨some 7, none, .p (.mv (.t 0))⟩,
 ⟨some 8, none, .p (.lenS (.t 7))⟩,
 ⟨some 9, none, .p (.bin .leq (.t 6) (.t 8))⟩])
 (.cond (.t 9)
 .skip
 (.exit 0)))
 (.seq (.block 1 (.seq (.ops [⟨some 12, none, .p (.mv (.t 5))⟩,
 ⟨some 13, none, .p (.mv (.t 0))⟩,
 ⟨some 14, none, .p (.lenS (.t 13))⟩,
 ⟨some 15, none, .p (.bin .eql (.t 12) (.t 14))⟩,
 ⟨some 16, none, .p (.mv (.t 15))⟩,
 ⟨some 17, some (16, false), .p (.mv (.t 0))⟩,
 ⟨some 18, some (16, false), .p (.mv (.t 5))⟩,
 ⟨some 19, some (16, false), .p (.ixstr (.t 17) (.t 18))⟩,
 ⟨some 20, some (16, false), .p (.bin .eql (.t 19) (.k (.s (.int .u8 32))))⟩,
 ⟨some 21, none, .p (.pick (.t 16) (.k (.s (.bool true))) (.t 20))⟩])
 (.cond (.t 21)
 (.seq (.ops [⟨some 22, none, .p (.mv (.t 3))⟩,
 ⟨some 23, none, .p (.mv (.t 0))⟩,
 ⟨some 24, none, .p (.mv (.t 4))⟩,
 ⟨some 25, none, .p (.mv (.t 5))⟩,
 ⟨some 26, none, .p (.slS (.t 23) (some (.t 24)) (some (.t 25)))⟩,
 ⟨some 27, none, .h (.mksl 1 1 (.one (.s (.str ⟨#[]⟩))) [(0, (.t 26))])⟩,
 ⟨some 28, none, .h (.append 1 16 (.t 22) (.t 27))⟩,
 ⟨some 3, none, .p (.mv (.t 28))⟩])
 (.ops [⟨some 29, none, .p (.mv (.t 5))⟩,
 ⟨some 30, none, .p (.bin .add (.t 29) (.k (.s (.int .i64 1))))⟩,
 ⟨some 4, none, .p (.mv (.t 30))⟩]))
 .skip)))
 (.ops [⟨some 10, none, .p (.mv (.t 5))⟩,
 ⟨some 11, none, .p (.bin .add (.t 10) (.k (.s (.int .i64 1))))⟩,
 ⟨some 5, none, .p (.mv (.t 11))⟩]))))))
 (.seq (.ops [⟨some 31, none, .p (.mv (.t 3))⟩,
 ⟨some 2, none, .p (.mv (.t 31))⟩])
 .ret)))))⟩
theorem c15 : compF Tryz.prog false Tryz.f15 = some a15 := by kernel_rfl
def a16 : AF := ⟨2, [.cell 0 true 133],
 (.seq (.ops [⟨some 0, none, .h (.alloc (.ints 133))⟩])
 (.seq (.ops [⟨some 1, none, .p (.build (.ints 133) [(130, 1, (.k (.s (.int .i64 (-1))))), (132, 1, (.k (.s (.int .i64 1))))])⟩,
 ⟨none, none, .h (.store 133 (.t 0) (.t 1))⟩])
 .ret))⟩
theorem c16 : compF Tryz.prog false Tryz.f16 = some a16 := by kernel_rfl
def a17 : AF := ⟨72, [.tmp 2, .tmp 3],
 (.seq (.ops [⟨some 1, none, .h (.box (.t 0))⟩,
 ⟨some 2, none, .p (.mv (.k (.s (.str ⟨#[]⟩))))⟩,
 ⟨some 3, none, .p (.mv (.k (.s (.int .i64 0))))⟩])
 (.seq (.seq (.ops [⟨some 8, none, .h (.load true 133 (.t 1))⟩,
 ⟨some 9, none, .h (.call (.k (.fn 31 [])) [(.t 8)])⟩,
 ⟨some 10, none, .p (.un .not (.t 9))⟩])
 (.cond (.t 10)
 (.seq (.ops [⟨some 2, none, .p (.mv (.k (.s (.str ⟨#[]⟩))))⟩,
 ⟨some 3, none, .p (.mv (.k (.s (.int .i64 2))))⟩])
 .ret)
 .skip))
 (.seq (.ops [⟨some 4, none, .p (.mv (.k (.s (.str ⟨#[]⟩))))⟩])
 (.seq (.seq (.ops [⟨some 5, none, .p (.mv (.k (.s (.int .i64 7))))⟩])
 (.block 0 (.loop (.seq (.seq (.ops [⟨some 11, none, .p (.mv (.t 5))⟩,
 ⟨some 12, none, .p (.bin .geq (.t 11) (.k (.s (.int .i64 0))))⟩])
 (.cond (.t 12)
 .skip
 (.exit 0)))
 (.seq (.block 1 (.seq (.ops [⟨some 15, none, .p (.mv (.t 4))⟩,
 ⟨some 16, none, .h (.load true 133 (.t 1))⟩,
 ⟨some 17, none, .p (.mv (.t 5))⟩,
 ⟨some 18, none, .h (.call (.k (.fn 33 [])) [(.t 16), (.t 17)])⟩,
 ⟨some 19, none, .p (.bin .add (.t 15) (.t 18))⟩,
 ⟨some 4, none, .p (.mv (.t 19))⟩])
 (.seq (.ops [⟨some 20, none, .p (.mv (.t 5))⟩,
 ⟨some 21, none, .p (.bin .gtr (.t 20) (.k (.s (.int .i64 0))))⟩])
 (.cond (.t 21)
 (.ops [⟨some 22, none, .p (.mv (.t 4))⟩,
 ⟨some 23, none, .p (.bin .add (.t 22) (.k (.s (.str ⟨#[47]⟩))))⟩,
 ⟨some 4, none, .p (.mv (.t 23))⟩])
 .skip))))
 (.ops [⟨some 13, none, .p (.mv (.t 5))⟩,
 ⟨some 14, none, .p (.bin .sub (.t 13) (.k (.s (.int .i64 1))))⟩,
 ⟨some 5, none, .p (.mv (.t 14))⟩]))))))
 (.seq (.ops [⟨some 24, none, .p (.mv (.t 4))⟩,
 ⟨some 25, none, .h (.mksl 2 1 (.one (.s (.str ⟨#[]⟩))) [(0, (.k (.s (.str ⟨#[32, 119, 32]⟩)))), (1, (.k (.s (.str ⟨#[32, 98, 32]⟩))))])⟩,
 ⟨some 26, none, .p (.fa 128 1 (.t 1))⟩,
 ⟨some 27, none, .h (.load false 1 (.t 26))⟩,
 ⟨some 28, none, .p (.ixs 1 (.t 25) (.t 27))⟩,
 ⟨some 29, none, .h (.load false 1 (.t 28))⟩,
 ⟨some 30, none, .p (.bin .add (.t 24) (.t 29))⟩,
 ⟨some 4, none, .p (.mv (.t 30))⟩])
 (.seq (.seq (.ops [⟨some 31, none, .p (.fa 129 1 (.t 1))⟩,
 ⟨some 32, none, .h (.load false 1 (.t 31))⟩,
 ⟨some 33, none, .p (.bin .eql (.t 32) (.k (.s (.int .i64 0))))⟩])
 (.cond (.t 33)
 (.ops [⟨some 34, none, .p (.mv (.t 4))⟩,
 ⟨some 35, none, .p (.bin .add (.t 34) (.k (.s (.str ⟨#[45]⟩))))⟩,
 ⟨some 4, none, .p (.mv (.t 35))⟩])
 .skip))
 (.seq (.seq (.ops [⟨some 6, none, .p (.mv (.k (.s (.int .i64 0))))⟩])
 (.block 2 (.loop (.seq (.seq (.ops [⟨some 36, none, .p (.mv (.t 6))⟩,
 ⟨some 37, none, .p (.bin .lss (.t 36) (.k (.s (.int .i64 4))))⟩])
 (.cond (.t 37)
 .skip
 (.exit 2)))
 (.seq (.block 3 (.seq (.ops [⟨some 40, none, .p (.fa 129 1 (.t 1))⟩,
 ⟨some 41, none, .h (.load false 1 (.t 40))⟩,
 ⟨some 42, none, .p (.mv (.t 6))⟩,
 ⟨some 43, none, .p (.bin .shr (.t 41) (.t 42))⟩,
 ⟨some 44, none, .p (.bin .rem (.t 43) (.k (.s (.int .i64 2))))⟩,
 ⟨some 45, none, .p (.bin .eql (.t 44) (.k (.s (.int .i64 1))))⟩])
 (.cond (.t 45)
 (.ops [⟨some 46, none, .p (.mv (.t 4))⟩,
 ⟨some 47, none, .p (.mv (.t 6))⟩,
 ⟨some 48, none, .p (.mv (.t 6))⟩,
 ⟨some 49, none, .p (.bin .add (.t 48) (.k (.s (.int .i64 1))))⟩,
 ⟨some 50, none, .p (.slS (.k (.s (.str ⟨#[75, 81, 107, 113]⟩))) (some (.t 47)) (some (.t 49)))⟩,
 ⟨some 51, none, .p (.bin .add (.t 46) (.t 50))⟩,
 ⟨some 4, none, .p (.mv (.t 51))⟩])
 .skip)))
 (.ops [⟨some 38, none, .p (.mv (.t 6))⟩,
 ⟨some 39, none, .p (.bin .add (.t 38) (.k (.s (.int .i64 1))))⟩,
 ⟨some 6, none, .p (.mv (.t 39))⟩]))))))
 (.seq (.ops [⟨some 7, none, .p (.mv (.k (.s (.str ⟨#[45]⟩))))⟩])
 (.seq (.seq (.ops [⟨some 52, none, .p (.fa 130 1 (.t 1))⟩,
 ⟨some 53, none, .h (.load false 1 (.t 52))⟩,
 ⟨some 54, none, .p (.bin .geq (.t 53) (.k (.s (.int .i64 0))))⟩])
 (.cond (.t 54)
 (.ops [⟨some 55, none, .p (.fa 130 1 (.t 1))⟩,
 ⟨some 56, none, .h (.load false 1 (.t 55))⟩,
 ⟨some 57, none, .h (.call (.k (.fn 34 [])) [(.t 56)])⟩,
 ⟨some 7, none, .p (.mv (.t 57))⟩])
 .skip))
 (.seq (.par [⟨some 58, none, .p (.mv (.t 4))⟩,
 ⟨some 59, none, .p (.bin .add (.t 58) (.k (.s (.str ⟨#[32]⟩))))⟩,
 ⟨some 60, none, .p (.mv (.t 7))⟩,
 ⟨some 61, none, .p (.bin .add (.t 59) (.t 60))⟩,
 ⟨some 62, none, .p (.bin .add (.t 61) (.k (.s (.str ⟨#[32]⟩))))⟩,
 ⟨some 63, none, .p (.fa 131 1 (.t 1))⟩,
 ⟨some 64, none, .h (.load false 1 (.t 63))⟩,
 ⟨some 65, none, .h (.callq (.k (.fn 23 [])) [(.t 64)])⟩,
 ⟨some 66, none, .p (.bin .add (.t 62) (.t 65))⟩,
 ⟨some 67, none, .p (.bin .add (.t 66) (.k (.s (.str ⟨#[32]⟩))))⟩,
 ⟨some 68, none, .p (.fa 132 1 (.t 1))⟩,
 ⟨some 69, none, .h (.load false 1 (.t 68))⟩,
 ⟨some 70, none, .h (.call (.k (.fn 23 [])) [(.t 69)])⟩,
 ⟨some 71, none, .p (.bin .add (.t 67) (.t 70))⟩,
 ⟨some 2, none, .p (.mv (.t 71))⟩,
 ⟨some 3, none, .p (.mv (.k (.s (.int .i64 0))))⟩])
 .ret))))))))))⟩
theorem c17 : compF Tryz.prog false Tryz.f17 = some a17 := by kernel_rfl
def a18 : AF := ⟨36, [.tmp 2],
 (.seq (.ops [⟨some 1, none, .h (.box (.t 0))⟩,
 ⟨some 2, none, .p (.mv (.k (.s (.bool false))))⟩])
 (.seq (.ops [⟨some 4, none, .h (.load true 133 (.t 1))⟩,
 ⟨some 5, none, .p (.build (.ints 133) [(0, 133, (.t 4))])⟩,
 ⟨some 3, none, .h (.alloc (.ints 133))⟩,
 ⟨none, none, .h (.store 133 (.t 3) (.t 5))⟩])
 (.seq (.ops [⟨some 6, none, .h (.load true 133 (.t 3))⟩,
 ⟨some 7, none, .h (.call (.k (.fn 35 [])) [(.t 6)])⟩,
 ⟨some 8, none, .p (.mv (.t 7))⟩,
 ⟨some 9, some (8, true), .h (.load true 133 (.t 3))⟩,
 ⟨some 10, some (8, true), .h (.call (.k (.fn 36 [])) [(.t 9)])⟩,
 ⟨some 11, none, .p (.pick (.t 8) (.t 10) (.k (.s (.bool false))))⟩,
 ⟨some 12, none, .p (.mv (.t 11))⟩,
 ⟨some 13, some (12, true), .h (.load true 133 (.t 3))⟩,
 ⟨some 14, some (12, true), .h (.call (.k (.fn 37 [])) [(.t 13)])⟩,
 ⟨some 15, none, .p (.pick (.t 12) (.t 14) (.k (.s (.bool false))))⟩,
 ⟨some 16, none, .p (.mv (.t 15))⟩,
 ⟨some 17, some (16, true), .p (.fa 131 1 (.t 1))⟩,
 ⟨some 18, some (16, true), .h (.load false 1 (.t 17))⟩,
 ⟨some 19, some (16, true), .p (.bin .geq (.t 18) (.k (.s (.int .i64 0))))⟩,
 ⟨some 20, none, .p (.pick (.t 16) (.t 19) (.k (.s (.bool false))))⟩,
 ⟨some 21, none, .p (.mv (.t 20))⟩,
 ⟨some 22, some (21, true), .p (.fa 131 1 (.t 1))⟩,
 ⟨some 23, some (21, true), .h (.load false 1 (.t 22))⟩,
 ⟨some 24, some (21, true), .p (.bin .leq (.t 23) (.k (.s (.int .i64 1024))))⟩,
 ⟨some 25, none, .p (.pick (.t 21) (.t 24) (.k (.s (.bool false))))⟩,
 ⟨some 26, none, .p (.mv (.t 25))⟩,
 ⟨some 27, some (26, true), .p (.fa 132 1 (.t 1))⟩,
 ⟨some 28, some (26, true), .h (.load false 1 (.t 27))⟩,
 ⟨some 29, some (26, true), .p (.bin .geq (.t 28) (.k (.s (.int .i64 1))))⟩,
 ⟨some 30, none, .p (.pick (.t 26) (.t 29) (.k (.s (.bool false))))⟩,
 ⟨some 31, none, .p (.mv (.t 30))⟩,
 ⟨some 32, some (31, true), .p (.fa 132 1 (.t 1))⟩,
 ⟨some 33, some (31, true), .h (.load false 1 (.t 32))⟩,
 ⟨some 34, some (31, true), .p (.bin .leq (.t 33) (.k (.s (.int .i64 16384))))⟩,
 ⟨some 35, none, .p (.pick (.t 31) (.t 34) (.k (.s (.bool false))))⟩,
 ⟨some 2, none, .p (.mv (.t 35))⟩])
 .ret)))⟩
theorem c18 : compF Tryz.prog false Tryz.f18 = some a18 := by kernel_rfl
def a19 : AF := ⟨47, [.tmp 4],
 (.seq (.ops [⟨some 2, none, .h (.box (.t 0))⟩,
 ⟨some 4, none, .p (.mv (.k (.s (.str ⟨#[]⟩))))⟩])
 (.seq (.ops [⟨some 5, none, .h (.alloct 69 [.pnil, .snil])⟩])
 (.seq (.seq (.ops [⟨some 6, none, .p (.mv (.k (.s (.int .i64 0))))⟩])
 (.block 0 (.loop (.seq (.seq (.ops [⟨some 8, none, .p (.mv (.t 6))⟩,
 ⟨some 9, none, .p (.bin .lss (.t 8) (.k (.s (.int .i64 8))))⟩])
 (.cond (.t 9)
 .skip
 (.exit 0)))
 (.block 1 (.seq (.ops [⟨some 7, none, .p (.mv (.k (.s (.int .i64 0))))⟩])
 (.seq (.block 2 (.loop (.seq (.seq (.ops [⟨some 10, none, .p (.mv (.t 6))⟩,
 ⟨some 11, none, .p (.mv (.t 7))⟩,
 ⟨some 12, none, .p (.bin .add (.t 10) (.t 11))⟩,
 ⟨some 13, none, .p (.bin .lss (.t 12) (.k (.s (.int .i64 8))))⟩,
 ⟨some 14, none, .p (.mv (.t 13))⟩,
 ⟨some 15, some (14, true), .p (.mv (.t 6))⟩,
 ⟨some 16, some (14, true), .p (.mv (.t 7))⟩,
 ⟨some 17, some (14, true), .p (.bin .add (.t 15) (.t 16))⟩,
 ⟨some 18, some (14, true), .p (.mv (.t 1))⟩,
 ⟨some 19, some (14, true), .h (.call (.k (.fn 38 [])) [(.t 17), (.t 18)])⟩,
 ⟨some 20, some (14, true), .p (.fa 0 128 (.t 2))⟩,
 ⟨some 21, some (14, true), .p (.ixa 64 2 (.t 20) (.t 19))⟩,
 ⟨some 22, some (14, true), .h (.load true 2 (.t 21))⟩,
 ⟨some 23, some (14, true), .p (.build (.ints 2) [])⟩,
 ⟨some 24, some (14, true), .p (.eqa false 2 (.t 22) (.t 23))⟩,
 ⟨some 25, none, .p (.pick (.t 14) (.t 24) (.k (.s (.bool false))))⟩])
 (.cond (.t 25)
 .skip
 (.exit 2)))
 (.block 3 (.ops [⟨some 26, none, .p (.mv (.t 7))⟩,
 ⟨some 27, none, .p (.bin .add (.t 26) (.k (.s (.int .i64 1))))⟩,
 ⟨some 7, none, .p (.mv (.t 27))⟩])))))
 (.seq (.seq (.ops [⟨some 28, none, .p (.mv (.t 7))⟩,
 ⟨some 29, none, .p (.bin .gtr (.t 28) (.k (.s (.int .i64 0))))⟩])
 (.cond (.t 29)
 (.seq (.ops [⟨some 30, none, .p (.mv (.t 7))⟩,
 ⟨some 31, none, .h (.call (.k (.fn 23 [])) [(.t 30)])⟩,
 ⟨some 32, none, .h (.call (.k (.fn 39 [])) [(.t 5), (.t 31)])⟩])
 (.seq (.ops [⟨some 33, none, .p (.mv (.t 6))⟩,
 ⟨some 34, none, .p (.mv (.t 7))⟩,
 ⟨some 35, none, .p (.bin .add (.t 33) (.t 34))⟩,
 ⟨some 6, none, .p (.mv (.t 35))⟩])
 (.exit 1)))
 .skip))
 (.seq (.ops [⟨some 36, none, .p (.mv (.t 6))⟩,
 ⟨some 37, none, .p (.mv (.t 1))⟩,
 ⟨some 38, none, .h (.call (.k (.fn 38 [])) [(.t 36), (.t 37)])⟩,
 ⟨some 39, none, .p (.fa 0 128 (.t 2))⟩,
 ⟨some 40, none, .p (.ixa 64 2 (.t 39) (.t 38))⟩,
 ⟨some 41, none, .h (.load true 2 (.t 40))⟩,
 ⟨some 42, none, .h (.call (.k (.fn 40 [])) [(.t 41)])⟩,
 ⟨some 43, none, .h (.call (.k (.fn 39 [])) [(.t 5), (.t 42)])⟩])
 (.ops [⟨some 44, none, .p (.mv (.t 6))⟩,
 ⟨some 45, none, .p (.bin .add (.t 44) (.k (.s (.int .i64 1))))⟩,
 ⟨some 6, none, .p (.mv (.t 45))⟩]))))))))))
 (.seq (.ops [⟨some 46, none, .h (.call (.k (.fn 41 [])) [(.t 5)])⟩,
 ⟨some 4, none, .p (.mv (.t 46))⟩])
 .ret))))⟩
theorem c19 : compF Tryz.prog false Tryz.f19 = some a19 := by kernel_rfl
def a20 : AF := ⟨75, [.tmp 4],
 (.seq (.ops [⟨some 4, none, .p (.mv (.k (.s (.str ⟨#[]⟩))))⟩])
 (.seq (.seq (.ops [⟨some 11, none, .p (.mv (.t 0))⟩,
 ⟨some 12, none, .p (.len (.t 11))⟩])
 (.block 0 (.seq (.ops [⟨some 14, none, .p (.bin .eql (.t 12) (.k (.s (.int .i64 0))))⟩,
 ⟨some 13, none, .p (.mv (.t 14))⟩])
 (.cond (.t 13)
 (.seq (.ops [⟨some 4, none, .p (.mv (.k (.s (.str ⟨#[]⟩))))⟩])
 .ret)
 (.seq (.ops [⟨some 16, none, .p (.bin .eql (.t 12) (.k (.s (.int .i64 1))))⟩,
 ⟨some 15, none, .p (.mv (.t 16))⟩])
 (.cond (.t 15)
 (.seq (.ops [⟨some 17, none, .p (.mv (.t 0))⟩,
 ⟨some 18, none, .p (.ixs 1 (.t 17) (.k (.s (.int .i64 0))))⟩,
 ⟨some 19, none, .h (.load false 1 (.t 18))⟩,
 ⟨some 4, none, .p (.mv (.t 19))⟩])
 .ret)
 .skip))))))
 (.seq (.ops [⟨some 5, none, .p (.mv (.k (.s (.int .i64 0))))⟩])
 (.seq (.seq (.ops [⟨some 20, none, .p (.mv (.t 1))⟩,
 ⟨some 21, none, .p (.lenS (.t 20))⟩,
 ⟨some 22, none, .p (.bin .gtr (.t 21) (.k (.s (.int .i64 0))))⟩])
 (.cond (.t 22)
 (.seq (.seq (.ops [⟨some 23, none, .p (.mv (.t 1))⟩,
 ⟨some 24, none, .p (.lenS (.t 23))⟩,
 ⟨some 25, none, .p (.mv (.t 0))⟩,
 ⟨some 26, none, .p (.len (.t 25))⟩,
 ⟨some 27, none, .p (.bin .sub (.t 26) (.k (.s (.int .i64 1))))⟩,
 ⟨some 28, none, .p (.bin .quo (.k (.s (.int .i64 9223372036854775807))) (.t 27))⟩,
 ⟨some 29, none, .p (.bin .geq (.t 24) (.t 28))⟩])
 (.cond (.t 29)
 (.ops [⟨some 30, none, .p (.mkif 9 (.k (.s (.str ⟨#[115, 116, 114, 105, 110, 103, 115, 58, 32, 74, 111, 105, 110, 32, 111, 117, 116, 112, 117, 116, 32, 108, 101, 110, 103, 116, 104, 32, 111, 118, 101, 114, 102, 108, 111, 119]⟩))))⟩,
 ⟨none, none, .h (.pnc (.t 30))⟩])
 .skip))
 (.ops [⟨some 31, none, .p (.mv (.t 5))⟩,
 ⟨some 32, none, .p (.mv (.t 1))⟩,
 ⟨some 33, none, .p (.lenS (.t 32))⟩,
 ⟨some 34, none, .p (.mv (.t 0))⟩,
 ⟨some 35, none, .p (.len (.t 34))⟩,
 ⟨some 36, none, .p (.bin .sub (.t 35) (.k (.s (.int .i64 1))))⟩,
 ⟨some 37, none, .p (.bin .mul (.t 33) (.t 36))⟩,
 ⟨some 38, none, .p (.bin .add (.t 31) (.t 37))⟩,
 ⟨some 5, none, .p (.mv (.t 38))⟩]))
 .skip))
 (.seq (.seq (.ops [⟨some 39, none, .p (.mv (.t 0))⟩,
 ⟨some 40, none, .p (.len (.t 39))⟩,
 ⟨some 41, none, .p (.mv (.k (.s (.int .i64 0))))⟩])
 (.block 1 (.loop (.seq (.ops [⟨some 42, none, .p (.bin .lss (.t 41) (.t 40))⟩])
 (.seq (.cond (.t 42)
 .skip
 (.exit 1))
 (.seq (.block 2 (.seq (.ops [⟨some 43, none, .p (.ixs 1 (.t 39) (.t 41))⟩,
 ⟨some 44, none, .h (.load false 1 (.t 43))⟩,
 ⟨some 7, none, .p (.mv (.t 44))⟩])
 (.seq (.seq (.ops [⟨some 45, none, .p (.mv (.t 7))⟩,
 ⟨some 46, none, .p (.lenS (.t 45))⟩,
 ⟨some 47, none, .p (.mv (.t 5))⟩,
 ⟨some 48, none, .p (.bin .sub (.k (.s (.int .i64 9223372036854775807))) (.t 47))⟩,
 ⟨some 49, none, .p (.bin .gtr (.t 46) (.t 48))⟩])
 (.cond (.t 49)
 (.ops [⟨some 50, none, .p (.mkif 9 (.k (.s (.str ⟨#[115, 116, 114, 105, 110, 103, 115, 58, 32, 74, 111, 105, 110, 32, 111, 117, 116, 112, 117, 116, 32, 108, 101, 110, 103, 116, 104, 32, 111, 118, 101, 114, 102, 108, 111, 119]⟩))))⟩,
 ⟨none, none, .h (.pnc (.t 50))⟩])
 .skip))
 (.ops [⟨some 51, none, .p (.mv (.t 5))⟩,
 ⟨some 52, none, .p (.mv (.t 7))⟩,
 ⟨some 53, none, .p (.lenS (.t 52))⟩,
 ⟨some 54, none, .p (.bin .add (.t 51) (.t 53))⟩,
 ⟨some 5, none, .p (.mv (.t 54))⟩]))))
 (.ops [⟨some 55, none, .p (.bin .add (.t 41) (.k (.s (.int .i64 1))))⟩,
 ⟨some 41, none, .p (.mv (.t 55))⟩])))))))
 (.seq (.ops [⟨some 8, none, .h (.alloct 69 [.pnil, .snil])⟩])
 (.seq (.ops [⟨some 56, none, .p (.mv (.t 5))⟩,
 ⟨some 57, none, .h (.call (.k (.fn 42 [])) [(.t 8), (.t 56)])⟩])
 (.seq (.ops [⟨some 58, none, .p (.mv (.t 0))⟩,
 ⟨some 59, none, .p (.ixs 1 (.t 58) (.k (.s (.int .i64 0))))⟩,
 ⟨some 60, none, .h (.load false 1 (.t 59))⟩,
 ⟨some 61, none, .h (.call (.k (.fn 39 [])) [(.t 8), (.t 60)])⟩])
 (.seq (.seq (.ops [⟨some 62, none, .p (.mv (.t 0))⟩,
 ⟨some 63, none, .p (.slV 1 (.t 62) (some (.k (.s (.int .i64 1)))) none)⟩,
 ⟨some 64, none, .p (.len (.t 63))⟩,
 ⟨some 65, none, .p (.mv (.k (.s (.int .i64 0))))⟩])
 (.block 3 (.loop (.seq (.ops [⟨some 66, none, .p (.bin .lss (.t 65) (.t 64))⟩])
 (.seq (.cond (.t 66)
 .skip
 (.exit 3))
 (.seq (.block 4 (.seq (.ops [⟨some 67, none, .p (.ixs 1 (.t 63) (.t 65))⟩,
 ⟨some 68, none, .h (.load false 1 (.t 67))⟩,
 ⟨some 10, none, .p (.mv (.t 68))⟩])
 (.seq (.ops [⟨some 69, none, .p (.mv (.t 1))⟩,
 ⟨some 70, none, .h (.call (.k (.fn 39 [])) [(.t 8), (.t 69)])⟩])
 (.ops [⟨some 71, none, .p (.mv (.t 10))⟩,
 ⟨some 72, none, .h (.call (.k (.fn 39 [])) [(.t 8), (.t 71)])⟩]))))
 (.ops [⟨some 73, none, .p (.bin .add (.t 65) (.k (.s (.int .i64 1))))⟩,
 ⟨some 65, none, .p (.mv (.t 73))⟩])))))))
 (.seq (.ops [⟨some 74, none, .h (.call (.k (.fn 41 [])) [(.t 8)])⟩,
 ⟨some 4, none, .p (.mv (.t 74))⟩])
 .ret))))))))))⟩
theorem c20 : compF Tryz.prog false Tryz.f20 = some a20 := by kernel_rfl
def a21 : AF := ⟨6, [.tmp 2],
 (.seq (.ops [⟨some 2, none, .p (.mv (.k (.s (.str ⟨#[]⟩))))⟩])
 (.seq (.seq (.ops [⟨some 3, none, .p (.mv (.t 0))⟩,
 ⟨some 4, none, .p (.bin .eql (.t 3) (.k (.s (.str ⟨#[]⟩))))⟩])
 (.cond (.t 4)
 (.seq (.ops [⟨some 2, none, .p (.mv (.k (.s (.str ⟨#[45]⟩))))⟩])
 .ret)
 .skip))
 (.seq (.ops [⟨some 5, none, .p (.mv (.t 0))⟩,
 ⟨some 2, none, .p (.mv (.t 5))⟩])
 .ret)))⟩
theorem c21 : compF Tryz.prog false Tryz.f21 = some a21 := by kernel_rfl
def a22 : AF := ⟨26, [.tmp 2],
 (.seq (.ops [⟨some 2, none, .p (.mv (.k (.s (.str ⟨#[]⟩))))⟩])
 (.seq (.ops [⟨some 4, none, .p (.mv (.t 0))⟩,
 ⟨some 5, none, .h (.call (.k (.fn 43 [])) [(.t 4)])⟩,
 ⟨some 3, none, .h (.alloc (.scl [(.int .i64 0), (.int .i64 0), (.bool false)]))⟩,
 ⟨none, none, .h (.store 3 (.t 3) (.t 5))⟩])
 (.seq (.seq (.ops [⟨some 6, none, .p (.fa 2 1 (.t 3))⟩,
 ⟨some 7, none, .h (.load false 1 (.t 6))⟩,
 ⟨some 8, none, .p (.un .not (.t 7))⟩])
 (.cond (.t 8)
 (.seq (.ops [⟨some 2, none, .p (.mv (.k (.s (.str ⟨#[]⟩))))⟩])
 .ret)
 .skip))
 (.seq (.par [⟨some 9, none, .p (.fa 0 2 (.t 3))⟩,
 ⟨some 10, none, .p (.fa 0 1 (.t 9))⟩,
 ⟨some 11, none, .h (.load false 1 (.t 10))⟩,
 ⟨some 12, none, .p (.fa 0 2 (.t 3))⟩,
 ⟨some 13, none, .p (.fa 0 1 (.t 12))⟩,
 ⟨some 14, none, .h (.load false 1 (.t 13))⟩,
 ⟨some 15, none, .p (.bin .add (.t 14) (.k (.s (.int .i64 1))))⟩,
 ⟨some 16, none, .p (.slS (.k (.s (.str ⟨#[97, 98, 99, 100, 101, 102, 103, 104]⟩))) (some (.t 11)) (some (.t 15)))⟩,
 ⟨some 17, none, .p (.fa 0 2 (.t 3))⟩,
 ⟨some 18, none, .p (.fa 1 1 (.t 17))⟩,
 ⟨some 19, none, .h (.load false 1 (.t 18))⟩,
 ⟨some 20, none, .p (.fa 0 2 (.t 3))⟩,
 ⟨some 21, none, .p (.fa 1 1 (.t 20))⟩,
 ⟨some 22, none, .h (.load false 1 (.t 21))⟩,
 ⟨some 23, none, .p (.bin .add (.t 22) (.k (.s (.int .i64 1))))⟩,
 ⟨some 24, none, .p (.slS (.k (.s (.str ⟨#[49, 50, 51, 52, 53, 54, 55, 56]⟩))) (some (.t 19)) (some (.t 23)))⟩,
 ⟨some 25, none, .p (.bin .add (.t 16) (.t 24))⟩,
 ⟨some 2, none, .p (.mv (.t 25))⟩])
 .ret))))⟩
theorem c22 : compF Tryz.prog false Tryz.f22 = some a22 := by kernel_rfl
def a25 : AF := ⟨58, [],
 (.seq (.ops [⟨some 1, none, .h (.box (.t 0))⟩])
 (.seq (.ops [⟨some 7, none, .h (.call (.k (.fn 45 [])) [])⟩,
 ⟨some 2, none, .p (.mv (.t 7))⟩])
 (.seq (.seq (.ops [⟨some 3, none, .p (.mv (.k (.s (.int .i64 7))))⟩])
 (.block 0 (.loop (.seq (.seq (.ops [⟨some 8, none, .p (.mv (.t 3))⟩,
 ⟨some 9, none, .p (.bin .geq (.t 8) (.k (.s (.int .i64 0))))⟩])
 (.cond (.t 9)
 .skip
 (.exit 0)))
 (.seq (.block 1 (.seq (.ops [⟨some 12, none, .h (.load false 1 (.t 1))⟩,
 ⟨some 13, none, .p (.mv (.t 3))⟩,
 ⟨some 14, none, .p (.mv (.t 2))⟩,
 ⟨some 15, none, .h (.call (.k (.fn 46 [])) [(.t 12), (.t 13), (.t 14)])⟩])
 (.seq (.ops [⟨some 16, none, .p (.mv (.t 3))⟩,
 ⟨some 17, none, .p (.bin .gtr (.t 16) (.k (.s (.int .i64 0))))⟩])
 (.cond (.t 17)
 (.ops [⟨some 18, none, .h (.load false 1 (.t 1))⟩,
 ⟨some 19, none, .h (.mksl 1 1 (.one (.s (.str ⟨#[]⟩))) [(0, (.k (.s (.str ⟨#[47]⟩))))])⟩,
 ⟨some 20, none, .h (.call (.k (.fn 47 [])) [(.t 18), (.t 19)])⟩])
 .skip))))
 (.ops [⟨some 10, none, .p (.mv (.t 3))⟩,
 ⟨some 11, none, .p (.bin .sub (.t 10) (.k (.s (.int .i64 1))))⟩,
 ⟨some 3, none, .p (.mv (.t 11))⟩]))))))
 (.seq (.ops [⟨some 21, none, .p (.mkfn 48 [(.t 1)])⟩,
 ⟨some 22, none, .h (.load false 1 (.t 1))⟩,
 ⟨some 23, none, .p (.mkb 50 (.t 22))⟩,
 ⟨some 24, none, .h (.load false 1 (.t 1))⟩,
 ⟨some 25, none, .p (.mkb 51 (.t 24))⟩,
 ⟨some 26, none, .p (.mkfn 52 [(.t 1)])⟩,
 ⟨some 27, none, .p (.mkfn 54 [(.t 1)])⟩,
 ⟨some 28, none, .p (.build (.vl [.fnil, .fnil, .fnil, .fnil, .fnil]) [(0, 1, (.t 21)), (1, 1, (.t 23)), (2, 1, (.t 25)), (3, 1, (.t 26)), (4, 1, (.t 27))])⟩,
 ⟨some 4, none, .h (.alloct 87 [.fnil, .fnil, .fnil, .fnil, .fnil])⟩,
 ⟨none, none, .h (.store 5 (.t 4) (.t 28))⟩])
 (.seq (.seq (.ops [⟨some 29, none, .h (.load true 5 (.t 4))⟩,
 ⟨some 30, none, .p (.mv (.k (.s (.int .i64 0))))⟩])
 (.block 2 (.loop (.seq (.ops [⟨some 31, none, .p (.bin .lss (.t 30) (.k (.s (.int .i64 5))))⟩])
 (.seq (.cond (.t 31)
 .skip
 (.exit 2))
 (.seq (.block 3 (.seq (.ops [⟨some 32, none, .p (.ix 5 1 false (.t 29) (.t 30))⟩,
 ⟨some 6, none, .p (.mv (.t 32))⟩])
 (.seq (.ops [⟨some 33, none, .h (.load false 1 (.t 1))⟩,
 ⟨some 34, none, .h (.mksl 1 1 (.one (.s (.str ⟨#[]⟩))) [(0, (.k (.s (.str ⟨#[32]⟩))))])⟩,
 ⟨some 35, none, .h (.call (.k (.fn 47 [])) [(.t 33), (.t 34)])⟩])
 (.ops [⟨some 36, none, .p (.mv (.t 6))⟩,
 ⟨some 37, none, .h (.call (.t 36) [])⟩]))))
 (.ops [⟨some 38, none, .p (.bin .add (.t 30) (.k (.s (.int .i64 1))))⟩,
 ⟨some 30, none, .p (.mv (.t 38))⟩])))))))
 (.seq (.par [⟨some 39, none, .h (.load false 1 (.t 1))⟩,
 ⟨some 40, none, .p (.nilck (.t 39))⟩,
 ⟨some 41, none, .p (.fa 0 2 (.t 40))⟩,
 ⟨some 42, none, .p (.fa 1 1 (.t 41))⟩,
 ⟨some 43, none, .h (.load false 1 (.t 42))⟩,
 ⟨some 44, none, .h (.load false 1 (.t 1))⟩,
 ⟨some 45, none, .p (.nilck (.t 44))⟩,
 ⟨some 46, none, .p (.fa 0 2 (.t 45))⟩,
 ⟨some 47, none, .p (.fa 0 1 (.t 46))⟩,
 ⟨some 48, none, .h (.load false 1 (.t 47))⟩,
 ⟨some 49, none, .p (.lenS (.t 48))⟩,
 ⟨some 50, none, .p (.bin .lss (.t 43) (.t 49))⟩])
 (.cond (.t 50)
 (.ops [⟨some 51, none, .h (.load false 1 (.t 1))⟩,
 ⟨some 52, none, .p (.nilck (.t 51))⟩,
 ⟨some 53, none, .p (.fa 0 2 (.t 52))⟩,
 ⟨some 54, none, .p (.fa 1 1 (.t 53))⟩,
 ⟨some 55, none, .h (.load false 1 (.t 54))⟩,
 ⟨some 56, none, .p (.build (.ints 1) [(0, 1, (.t 55))])⟩,
 ⟨some 57, none, .p (.mkif 49 (.t 56))⟩,
 ⟨none, none, .h (.pnc (.t 57))⟩])
 .skip)))))))⟩
theorem c25 : compF Tryz.prog false Tryz.f25 = some a25 := by kernel_rfl
def a26 : AF := ⟨70, [],
 (.seq (.ops [⟨some 6, none, .p (.mv (.k (.s (.int .i64 0))))⟩])
 (.seq (.ops [⟨some 7, none, .p (.mv (.k (.s (.bool false))))⟩])
 (.block 0 (.loop (.seq (.seq (.ops [⟨some 10, none, .p (.mv (.t 6))⟩,
 ⟨some 11, none, .p (.bin .lss (.t 10) (.k (.s (.int .i64 8))))⟩,
 ⟨some 12, none, .p (.mv (.t 11))⟩,
 ⟨some 13, some (12, true), .p (.mv (.t 0))⟩,
 ⟨some 14, some (12, true), .p (.nilck (.t 13))⟩,
 ⟨some 15, some (12, true), .p (.fa 2 1 (.t 14))⟩,
 ⟨some 16, some (12, true), .h (.load false 1 (.t 15))⟩,
 ⟨some 17, some (12, true), .p (.un .not (.t 16))⟩,
 ⟨some 18, none, .p (.pick (.t 12) (.t 17) (.k (.s (.bool false))))⟩])
 (.cond (.t 18)
 .skip
 (.exit 0)))
 (.block 1 (.seq (.ops [⟨some 8, none, .p (.mv (.k (.s (.str ⟨#[80, 78, 66, 82, 81, 75, 112, 110, 98, 114, 113, 107]⟩))))⟩])
 (.seq (.seq (.ops [⟨some 19, none, .p (.mv (.t 7))⟩,
 ⟨some 20, none, .p (.un .not (.t 19))⟩])
 (.cond (.t 20)
 (.ops [⟨some 21, none, .p (.mv (.t 8))⟩,
 ⟨some 22, none, .p (.mv (.t 6))⟩,
 ⟨some 23, none, .p (.bin .sub (.k (.s (.int .i64 8))) (.t 22))⟩,
 ⟨some 24, none, .p (.slS (.k (.s (.str ⟨#[49, 50, 51, 52, 53, 54, 55, 56]⟩))) none (some (.t 23)))⟩,
 ⟨some 25, none, .p (.bin .add (.t 21) (.t 24))⟩,
 ⟨some 8, none, .p (.mv (.t 25))⟩])
 .skip))
 (.seq (.ops [⟨some 26, none, .p (.mv (.t 0))⟩,
 ⟨some 27, none, .p (.mv (.t 8))⟩,
 ⟨some 28, none, .h (.call (.k (.fn 27 [])) [(.t 26), (.t 27)])⟩,
 ⟨some 9, none, .p (.mv (.t 28))⟩])
 (.seq (.ops [⟨some 29, none, .p (.mv (.t 9))⟩,
 ⟨some 30, none, .p (.bin .geq (.t 29) (.k (.s (.int .i64 12))))⟩,
 ⟨some 7, none, .p (.mv (.t 30))⟩])
 (.block 2 (.seq (.ops [⟨some 36, none, .p (.mv (.t 9))⟩,
 ⟨some 37, none, .p (.bin .lss (.t 36) (.k (.s (.int .i64 0))))⟩,
 ⟨some 35, none, .p (.mv (.t 37))⟩])
 (.cond (.t 35)
 .skip
 (.seq (.ops [⟨some 39, none, .p (.mv (.t 9))⟩,
 ⟨some 40, none, .p (.bin .lss (.t 39) (.k (.s (.int .i64 6))))⟩,
 ⟨some 38, none, .p (.mv (.t 40))⟩])
 (.cond (.t 38)
 (.seq (.ops [⟨some 41, none, .p (.mv (.t 1))⟩,
 ⟨some 42, none, .p (.mv (.t 2))⟩,
 ⟨some 43, none, .p (.bin .mul (.k (.s (.int .i64 8))) (.t 42))⟩,
 ⟨some 44, none, .p (.mv (.t 6))⟩,
 ⟨some 45, none, .p (.bin .add (.t 43) (.t 44))⟩,
 ⟨some 46, none, .p (.mv (.t 9))⟩,
 ⟨some 47, none, .p (.bin .add (.t 46) (.k (.s (.int .i64 1))))⟩,
 ⟨some 48, none, .p (.build (.ints 2) [(0, 1, (.t 47)), (1, 1, (.k (.s (.int .i64 0))))])⟩,
 ⟨some 49, none, .p (.nilck (.t 41))⟩,
 ⟨some 50, none, .p (.fa 0 128 (.t 49))⟩,
 ⟨some 51, none, .p (.ixa 64 2 (.t 50) (.t 45))⟩,
 ⟨none, none, .h (.store 2 (.t 51) (.t 48))⟩])
 (.ops [⟨some 52, none, .p (.mv (.t 6))⟩,
 ⟨some 53, none, .p (.bin .add (.t 52) (.k (.s (.int .i64 1))))⟩,
 ⟨some 6, none, .p (.mv (.t 53))⟩]))
 (.seq (.ops [⟨some 55, none, .p (.mv (.t 9))⟩,
 ⟨some 56, none, .p (.bin .lss (.t 55) (.k (.s (.int .i64 12))))⟩,
 ⟨some 54, none, .p (.mv (.t 56))⟩])
 (.cond (.t 54)
 (.seq (.ops [⟨some 57, none, .p (.mv (.t 1))⟩,
 ⟨some 58, none, .p (.mv (.t 2))⟩,
 ⟨some 59, none, .p (.bin .mul (.k (.s (.int .i64 8))) (.t 58))⟩,
 ⟨some 60, none, .p (.mv (.t 6))⟩,
 ⟨some 61, none, .p (.bin .add (.t 59) (.t 60))⟩,
 ⟨some 62, none, .p (.mv (.t 9))⟩,
 ⟨some 63, none, .p (.bin .sub (.t 62) (.k (.s (.int .i64 5))))⟩,
 ⟨some 64, none, .p (.build (.ints 2) [(0, 1, (.t 63)), (1, 1, (.k (.s (.int .i64 1))))])⟩,
 ⟨some 65, none, .p (.nilck (.t 57))⟩,
 ⟨some 66, none, .p (.fa 0 128 (.t 65))⟩,
 ⟨some 67, none, .p (.ixa 64 2 (.t 66) (.t 61))⟩,
 ⟨none, none, .h (.store 2 (.t 67) (.t 64))⟩])
 (.ops [⟨some 68, none, .p (.mv (.t 6))⟩,
 ⟨some 69, none, .p (.bin .add (.t 68) (.k (.s (.int .i64 1))))⟩,
 ⟨some 6, none, .p (.mv (.t 69))⟩]))
 (.ops [⟨some 31, none, .p (.mv (.t 6))⟩,
 ⟨some 32, none, .p (.mv (.t 9))⟩,
 ⟨some 33, none, .p (.bin .add (.t 31) (.t 32))⟩,
 ⟨some 34, none, .p (.bin .sub (.t 33) (.k (.s (.int .i64 11))))⟩,
 ⟨some 6, none, .p (.mv (.t 34))⟩]))))))))))))))))))⟩
theorem c26 : compF Tryz.prog false Tryz.f26 = some a26 := by kernel_rfl
def a27 : AF := ⟨50, [.tmp 4],
 (.seq (.ops [⟨some 4, none, .p (.mv (.k (.s (.int .i64 0))))⟩])
 (.seq (.ops [⟨some 7, none, .p (.mv (.t 0))⟩,
 ⟨some 8, none, .h (.call (.k (.fn 55 [])) [(.t 7)])⟩,
 ⟨some 5, none, .p (.mv (.t 8))⟩])
 (.seq (.seq (.ops [⟨some 6, none, .p (.mv (.k (.s (.int .i64 0))))⟩])
 (.block 0 (.loop (.seq (.seq (.par [⟨some 9, none, .p (.mv (.t 6))⟩,
 ⟨some 10, none, .p (.mv (.t 1))⟩,
 ⟨some 11, none, .p (.lenS (.t 10))⟩,
 ⟨some 12, none, .p (.bin .lss (.t 9) (.t 11))⟩,
 ⟨some 13, none, .p (.mv (.t 12))⟩,
 ⟨some 14, some (13, true), .p (.mv (.t 0))⟩,
 ⟨some 15, some (13, true), .p (.nilck (.t 14))⟩,
 ⟨some 16, some (13, true), .p (.fa 1 1 (.t 15))⟩,
 ⟨some 17, some (13, true), .h (.load false 1 (.t 16))⟩,
 ⟨some 18, some (13, true), .p (.mv (.t 0))⟩,
 ⟨some 19, some (13, true), .p (.nilck (.t 18))⟩,
 ⟨some 20, some (13, true), .p (.fa 0 1 (.t 19))⟩,
 ⟨some 21, some (13, true), .h (.load false 1 (.t 20))⟩,
 ⟨some 22, some (13, true), .p (.lenS (.t 21))⟩,
 ⟨some 23, some (13, true), .p (.bin .lss (.t 17) (.t 22))⟩,
 ⟨some 24, none, .p (.pick (.t 13) (.t 23) (.k (.s (.bool false))))⟩])
 (.cond (.t 24)
 .skip
 (.exit 0)))
 (.seq (.block 1 (.seq (.ops [⟨some 27, none, .p (.mv (.t 1))⟩,
 ⟨some 28, none, .p (.mv (.t 6))⟩,
 ⟨some 29, none, .p (.ixstr (.t 27) (.t 28))⟩,
 ⟨some 30, none, .p (.mv (.t 5))⟩,
 ⟨some 31, none, .p (.bin .eql (.t 29) (.t 30))⟩,
 ⟨some 32, none, .p (.mv (.t 31))⟩,
 ⟨some 33, some (32, true), .p (.mv (.t 0))⟩,
 ⟨some 34, some (32, true), .p (.nilck (.t 33))⟩,
 ⟨some 35, some (32, true), .p (.fa 2 1 (.t 34))⟩,
 ⟨some 36, some (32, true), .h (.load false 1 (.t 35))⟩,
 ⟨some 37, some (32, true), .p (.un .not (.t 36))⟩,
 ⟨some 38, none, .p (.pick (.t 32) (.t 37) (.k (.s (.bool false))))⟩])
 (.cond (.t 38)
 (.seq (.ops [⟨some 39, none, .p (.mv (.t 0))⟩,
 ⟨some 40, none, .p (.nilck (.t 39))⟩,
 ⟨some 41, none, .p (.fa 1 1 (.t 40))⟩,
 ⟨some 42, none, .h (.load false 1 (.t 41))⟩,
 ⟨some 43, none, .p (.bin .add (.t 42) (.k (.s (.int .i64 1))))⟩,
 ⟨some 44, none, .p (.nilck (.t 39))⟩,
 ⟨some 45, none, .p (.fa 1 1 (.t 44))⟩,
 ⟨none, none, .h (.store 1 (.t 45) (.t 43))⟩])
 (.seq (.ops [⟨some 46, none, .p (.mv (.t 6))⟩,
 ⟨some 4, none, .p (.mv (.t 46))⟩])
 .ret))
 .skip)))
 (.ops [⟨some 25, none, .p (.mv (.t 6))⟩,
 ⟨some 26, none, .p (.bin .add (.t 25) (.k (.s (.int .i64 1))))⟩,
 ⟨some 6, none, .p (.mv (.t 26))⟩]))))))
 (.seq (.ops [⟨some 47, none, .p (.mv (.t 0))⟩,
 ⟨some 48, none, .p (.nilck (.t 47))⟩,
 ⟨some 49, none, .p (.fa 2 1 (.t 48))⟩,
 ⟨none, none, .h (.store 1 (.t 49) (.k (.s (.bool true))))⟩])
 (.seq (.ops [⟨some 4, none, .p (.mv (.k (.s (.int .i64 (-1)))))⟩])
 .ret)))))⟩
theorem c27 : compF Tryz.prog false Tryz.f27 = some a27 := by kernel_rfl
def a28 : AF := ⟨41, [.tmp 2],
 (.seq (.ops [⟨some 2, none, .p (.mv (.k (.s (.int .i64 0))))⟩])
 (.seq (.seq (.ops [⟨some 5, none, .p (.mv (.t 0))⟩,
 ⟨some 6, none, .h (.call (.k (.fn 55 [])) [(.t 5)])⟩,
 ⟨some 7, none, .p (.bin .eql (.t 6) (.k (.s (.int .u8 45))))⟩])
 (.cond (.t 7)
 (.seq (.ops [⟨some 8, none, .p (.mv (.t 0))⟩,
 ⟨some 9, none, .p (.nilck (.t 8))⟩,
 ⟨some 10, none, .p (.fa 1 1 (.t 9))⟩,
 ⟨some 11, none, .h (.load false 1 (.t 10))⟩,
 ⟨some 12, none, .p (.bin .add (.t 11) (.k (.s (.int .i64 1))))⟩,
 ⟨some 13, none, .p (.nilck (.t 8))⟩,
 ⟨some 14, none, .p (.fa 1 1 (.t 13))⟩,
 ⟨none, none, .h (.store 1 (.t 14) (.t 12))⟩])
 (.seq (.ops [⟨some 2, none, .p (.mv (.k (.s (.int .i64 0))))⟩])
 .ret))
 .skip))
 (.seq (.ops [⟨some 3, none, .p (.mv (.k (.s (.int .i64 0))))⟩])
 (.seq (.seq (.ops [⟨some 4, none, .p (.mv (.k (.s (.int .i64 0))))⟩])
 (.block 0 (.loop (.seq (.seq (.ops [⟨some 15, none, .p (.mv (.t 4))⟩,
 ⟨some 16, none, .p (.bin .lss (.t 15) (.k (.s (.int .i64 4))))⟩])
 (.cond (.t 16)
 .skip
 (.exit 0)))
 (.seq (.block 1 (.seq (.par [⟨some 19, none, .p (.mv (.t 0))⟩,
 ⟨some 20, none, .h (.call (.k (.fn 55 [])) [(.t 19)])⟩,
 ⟨some 21, none, .p (.mv (.t 4))⟩,
 ⟨some 22, none, .p (.ixstr (.k (.s (.str ⟨#[75, 81, 107, 113]⟩))) (.t 21))⟩,
 ⟨some 23, none, .p (.bin .eql (.t 20) (.t 22))⟩])
 (.cond (.t 23)
 (.seq (.ops [⟨some 24, none, .p (.mv (.t 3))⟩,
 ⟨some 25, none, .p (.mv (.t 4))⟩,
 ⟨some 26, none, .p (.bin .shl (.k (.s (.int .i64 1))) (.t 25))⟩,
 ⟨some 27, none, .p (.bin .add (.t 24) (.t 26))⟩,
 ⟨some 3, none, .p (.mv (.t 27))⟩])
 (.ops [⟨some 28, none, .p (.mv (.t 0))⟩,
 ⟨some 29, none, .p (.nilck (.t 28))⟩,
 ⟨some 30, none, .p (.fa 1 1 (.t 29))⟩,
 ⟨some 31, none, .h (.load false 1 (.t 30))⟩,
 ⟨some 32, none, .p (.bin .add (.t 31) (.k (.s (.int .i64 1))))⟩,
 ⟨some 33, none, .p (.nilck (.t 28))⟩,
 ⟨some 34, none, .p (.fa 1 1 (.t 33))⟩,
 ⟨none, none, .h (.store 1 (.t 34) (.t 32))⟩]))
 .skip)))
 (.ops [⟨some 17, none, .p (.mv (.t 4))⟩,
 ⟨some 18, none, .p (.bin .add (.t 17) (.k (.s (.int .i64 1))))⟩,
 ⟨some 4, none, .p (.mv (.t 18))⟩]))))))
 (.seq (.seq (.ops [⟨some 35, none, .p (.mv (.t 3))⟩,
 ⟨some 36, none, .p (.bin .eql (.t 35) (.k (.s (.int .i64 0))))⟩])
 (.cond (.t 36)
 (.ops [⟨some 37, none, .p (.mv (.t 0))⟩,
 ⟨some 38, none, .p (.nilck (.t 37))⟩,
 ⟨some 39, none, .p (.fa 2 1 (.t 38))⟩,
 ⟨none, none, .h (.store 1 (.t 39) (.k (.s (.bool true))))⟩])
 .skip))
 (.seq (.ops [⟨some 40, none, .p (.mv (.t 3))⟩,
 ⟨some 2, none, .p (.mv (.t 40))⟩])
 .ret))))))⟩
theorem c28 : compF Tryz.prog false Tryz.f28 = some a28 := by kernel_rfl
def a29 : AF := ⟨23, [.tmp 2],
 (.seq (.ops [⟨some 2, none, .p (.mv (.k (.s (.int .i64 0))))⟩])
 (.seq (.seq (.ops [⟨some 5, none, .p (.mv (.t 0))⟩,
 ⟨some 6, none, .h (.call (.k (.fn 55 [])) [(.t 5)])⟩,
 ⟨some 7, none, .p (.bin .eql (.t 6) (.k (.s (.int .u8 45))))⟩])
 (.cond (.t 7)
 (.seq (.ops [⟨some 8, none, .p (.mv (.t 0))⟩,
 ⟨some 9, none, .p (.nilck (.t 8))⟩,
 ⟨some 10, none, .p (.fa 1 1 (.t 9))⟩,
 ⟨some 11, none, .h (.load false 1 (.t 10))⟩,
 ⟨some 12, none, .p (.bin .add (.t 11) (.k (.s (.int .i64 1))))⟩,
 ⟨some 13, none, .p (.nilck (.t 8))⟩,
 ⟨some 14, none, .p (.fa 1 1 (.t 13))⟩,
 ⟨none, none, .h (.store 1 (.t 14) (.t 12))⟩])
 (.seq (.ops [⟨some 2, none, .p (.mv (.k (.s (.int .i64 (-1)))))⟩])
 .ret))
 .skip))
 (.seq (.ops [⟨some 15, none, .p (.mv (.t 0))⟩,
 ⟨some 16, none, .h (.call (.k (.fn 27 [])) [(.t 15), (.k (.s (.str ⟨#[97, 98, 99, 100, 101, 102, 103, 104]⟩)))])⟩,
 ⟨some 3, none, .p (.mv (.t 16))⟩])
 (.seq (.ops [⟨some 17, none, .p (.mv (.t 0))⟩,
 ⟨some 18, none, .h (.call (.k (.fn 27 [])) [(.t 17), (.k (.s (.str ⟨#[49, 50, 51, 52, 53, 54, 55, 56]⟩)))])⟩,
 ⟨some 4, none, .p (.mv (.t 18))⟩])
 (.seq (.ops [⟨some 19, none, .p (.mv (.t 4))⟩,
 ⟨some 20, none, .p (.bin .mul (.k (.s (.int .i64 8))) (.t 19))⟩,
 ⟨some 21, none, .p (.mv (.t 3))⟩,
 ⟨some 22, none, .p (.bin .add (.t 20) (.t 21))⟩,
 ⟨some 2, none, .p (.mv (.t 22))⟩])
 .ret)))))⟩
theorem c29 : compF Tryz.prog false Tryz.f29 = some a29 := by kernel_rfl
def a30 : AF := ⟨40, [.tmp 2],
 (.seq (.ops [⟨some 2, none, .p (.mv (.k (.s (.int .i64 0))))⟩])
 (.seq (.ops [⟨some 5, none, .p (.mv (.t 0))⟩,
 ⟨some 6, none, .h (.call (.k (.fn 27 [])) [(.t 5), (.k (.s (.str ⟨#[48, 49, 50, 51, 52, 53, 54, 55, 56, 57]⟩)))])⟩,
 ⟨some 3, none, .p (.mv (.t 6))⟩])
 (.seq (.seq (.ops [⟨some 4, none, .p (.mv (.k (.s (.int .i64 0))))⟩])
 (.block 0 (.loop (.seq (.seq (.ops [⟨some 7, none, .p (.mv (.t 3))⟩,
 ⟨some 8, none, .p (.bin .gtr (.t 7) (.k (.s (.int .i64 0))))⟩,
 ⟨some 9, none, .p (.mv (.t 8))⟩,
 ⟨some 10, some (9, true), .p (.mv (.t 4))⟩,
 ⟨some 11, some (9, true), .p (.bin .lss (.t 10) (.k (.s (.int .i64 5))))⟩,
 ⟨some 12, none, .p (.pick (.t 9) (.t 11) (.k (.s (.bool false))))⟩,
 ⟨some 13, none, .p (.mv (.t 12))⟩,
 ⟨some 14, some (13, true), .p (.mv (.t 0))⟩,
 ⟨some 15, some (13, true), .h (.call (.k (.fn 55 [])) [(.t 14)])⟩,
 ⟨some 16, some (13, true), .p (.bin .geq (.t 15) (.k (.s (.int .u8 48))))⟩,
 ⟨some 17, none, .p (.pick (.t 13) (.t 16) (.k (.s (.bool false))))⟩,
 ⟨some 18, none, .p (.mv (.t 17))⟩,
 ⟨some 19, some (18, true), .p (.mv (.t 0))⟩,
 ⟨some 20, some (18, true), .h (.call (.k (.fn 55 [])) [(.t 19)])⟩,
 ⟨some 21, some (18, true), .p (.bin .leq (.t 20) (.k (.s (.int .u8 57))))⟩,
 ⟨some 22, none, .p (.pick (.t 18) (.t 21) (.k (.s (.bool false))))⟩])
 (.cond (.t 22)
 .skip
 (.exit 0)))
 (.seq (.block 1 (.seq (.ops [⟨some 25, none, .p (.mv (.t 3))⟩,
 ⟨some 26, none, .p (.bin .mul (.k (.s (.int .i64 10))) (.t 25))⟩,
 ⟨some 27, none, .p (.mv (.t 0))⟩,
 ⟨some 28, none, .h (.call (.k (.fn 55 [])) [(.t 27)])⟩,
 ⟨some 29, none, .p (.bin .sub (.t 28) (.k (.s (.int .u8 48))))⟩,
 ⟨some 30, none, .p (.conv .i64 (.t 29))⟩,
 ⟨some 31, none, .p (.bin .add (.t 26) (.t 30))⟩,
 ⟨some 3, none, .p (.mv (.t 31))⟩])
 (.ops [⟨some 32, none, .p (.mv (.t 0))⟩,
 ⟨some 33, none, .p (.nilck (.t 32))⟩,
 ⟨some 34, none, .p (.fa 1 1 (.t 33))⟩,
 ⟨some 35, none, .h (.load false 1 (.t 34))⟩,
 ⟨some 36, none, .p (.bin .add (.t 35) (.k (.s (.int .i64 1))))⟩,
 ⟨some 37, none, .p (.nilck (.t 32))⟩,
 ⟨some 38, none, .p (.fa 1 1 (.t 37))⟩,
 ⟨none, none, .h (.store 1 (.t 38) (.t 36))⟩])))
 (.ops [⟨some 23, none, .p (.mv (.t 4))⟩,
 ⟨some 24, none, .p (.bin .add (.t 23) (.k (.s (.int .i64 1))))⟩,
 ⟨some 4, none, .p (.mv (.t 24))⟩]))))))
 (.seq (.ops [⟨some 39, none, .p (.mv (.t 3))⟩,
 ⟨some 2, none, .p (.mv (.t 39))⟩])
 .ret))))⟩
theorem c30 : compF Tryz.prog false Tryz.f30 = some a30 := by kernel_rfl
def a31 : AF := ⟨33, [.tmp 2],
 (.seq (.ops [⟨some 1, none, .h (.box (.t 0))⟩,
 ⟨some 2, none, .p (.mv (.k (.s (.bool false))))⟩])
 (.seq (.ops [⟨some 3, none, .h (.load true 133 (.t 1))⟩,
 ⟨some 4, none, .h (.call (.k (.fn 56 [])) [(.t 3)])⟩,
 ⟨some 5, none, .p (.mv (.t 4))⟩,
 ⟨some 6, some (5, true), .h (.load true 133 (.t 1))⟩,
 ⟨some 7, some (5, true), .h (.call (.k (.fn 57 [])) [(.t 6)])⟩,
 ⟨some 8, none, .p (.pick (.t 5) (.t 7) (.k (.s (.bool false))))⟩,
 ⟨some 9, none, .p (.mv (.t 8))⟩,
 ⟨some 10, some (9, true), .h (.load true 133 (.t 1))⟩,
 ⟨some 11, some (9, true), .h (.call (.k (.fn 58 [])) [(.t 10)])⟩,
 ⟨some 12, none, .p (.pick (.t 9) (.t 11) (.k (.s (.bool false))))⟩,
 ⟨some 13, none, .p (.mv (.t 12))⟩,
 ⟨some 14, some (13, true), .p (.fa 131 1 (.t 1))⟩,
 ⟨some 15, some (13, true), .h (.load false 1 (.t 14))⟩,
 ⟨some 16, some (13, true), .p (.bin .geq (.t 15) (.k (.s (.int .i64 0))))⟩,
 ⟨some 17, none, .p (.pick (.t 13) (.t 16) (.k (.s (.bool false))))⟩,
 ⟨some 18, none, .p (.mv (.t 17))⟩,
 ⟨some 19, some (18, true), .p (.fa 131 1 (.t 1))⟩,
 ⟨some 20, some (18, true), .h (.load false 1 (.t 19))⟩,
 ⟨some 21, some (18, true), .p (.bin .leq (.t 20) (.k (.s (.int .i64 1024))))⟩,
 ⟨some 22, none, .p (.pick (.t 18) (.t 21) (.k (.s (.bool false))))⟩,
 ⟨some 23, none, .p (.mv (.t 22))⟩,
 ⟨some 24, some (23, true), .p (.fa 132 1 (.t 1))⟩,
 ⟨some 25, some (23, true), .h (.load false 1 (.t 24))⟩,
 ⟨some 26, some (23, true), .p (.bin .geq (.t 25) (.k (.s (.int .i64 1))))⟩,
 ⟨some 27, none, .p (.pick (.t 23) (.t 26) (.k (.s (.bool false))))⟩,
 ⟨some 28, none, .p (.mv (.t 27))⟩,
 ⟨some 29, some (28, true), .p (.fa 132 1 (.t 1))⟩,
 ⟨some 30, some (28, true), .h (.load false 1 (.t 29))⟩,
 ⟨some 31, some (28, true), .p (.bin .leq (.t 30) (.k (.s (.int .i64 16384))))⟩,
 ⟨some 32, none, .p (.pick (.t 28) (.t 31) (.k (.s (.bool false))))⟩,
 ⟨some 2, none, .p (.mv (.t 32))⟩])
 .ret))⟩
theorem c31 : compF Tryz.prog false Tryz.f31 = some a31 := by kernel_rfl
def a33 : AF := ⟨74, [.tmp 4],
 (.seq (.ops [⟨some 2, none, .h (.box (.t 0))⟩,
 ⟨some 4, none, .p (.mv (.k (.s (.str ⟨#[]⟩))))⟩])
 (.seq (.ops [⟨some 5, none, .p (.mv (.k (.s (.str ⟨#[]⟩))))⟩])
 (.seq (.ops [⟨some 6, none, .p (.mv (.k (.s (.int .i64 0))))⟩])
 (.seq (.seq (.ops [⟨some 7, none, .p (.mv (.k (.s (.int .i64 0))))⟩])
 (.block 0 (.loop (.seq (.seq (.ops [⟨some 10, none, .p (.mv (.t 7))⟩,
 ⟨some 11, none, .p (.bin .leq (.t 10) (.k (.s (.int .i64 8))))⟩])
 (.cond (.t 11)
 .skip
 (.exit 0)))
 (.seq (.block 1 (.seq (.ops [⟨some 14, none, .p (.mv (.t 7))⟩,
 ⟨some 15, none, .p (.bin .lss (.t 14) (.k (.s (.int .i64 8))))⟩,
 ⟨some 16, none, .p (.mv (.t 15))⟩,
 ⟨some 17, some (16, true), .p (.mv (.t 1))⟩,
 ⟨some 18, some (16, true), .p (.bin .mul (.k (.s (.int .i64 8))) (.t 17))⟩,
 ⟨some 19, some (16, true), .p (.mv (.t 7))⟩,
 ⟨some 20, some (16, true), .p (.bin .add (.t 18) (.t 19))⟩,
 ⟨some 21, some (16, true), .p (.bin .rem (.t 20) (.k (.s (.int .i64 64))))⟩,
 ⟨some 22, some (16, true), .p (.fa 0 128 (.t 2))⟩,
 ⟨some 23, some (16, true), .p (.ixa 64 2 (.t 22) (.t 21))⟩,
 ⟨some 24, some (16, true), .h (.load true 2 (.t 23))⟩,
 ⟨some 25, some (16, true), .p (.build (.ints 2) [])⟩,
 ⟨some 26, some (16, true), .p (.eqa true 2 (.t 24) (.t 25))⟩,
 ⟨some 27, none, .p (.pick (.t 16) (.t 26) (.k (.s (.bool false))))⟩,
 ⟨some 8, none, .p (.mv (.t 27))⟩])
 (.seq (.seq (.ops [⟨some 28, none, .p (.mv (.t 7))⟩,
 ⟨some 29, none, .p (.bin .eql (.t 28) (.k (.s (.int .i64 8))))⟩,
 ⟨some 30, none, .p (.mv (.t 29))⟩,
 ⟨some 31, some (30, false), .p (.mv (.t 8))⟩,
 ⟨some 32, none, .p (.pick (.t 30) (.k (.s (.bool true))) (.t 31))⟩,
 ⟨some 33, none, .p (.mv (.t 32))⟩,
 ⟨some 34, some (33, true), .p (.mv (.t 6))⟩,
 ⟨some 35, some (33, true), .p (.bin .gtr (.t 34) (.k (.s (.int .i64 0))))⟩,
 ⟨some 36, none, .p (.pick (.t 33) (.t 35) (.k (.s (.bool false))))⟩])
 (.cond (.t 36)
 (.seq (.ops [⟨some 37, none, .p (.mv (.t 5))⟩,
 ⟨some 38, none, .p (.mv (.t 6))⟩,
 ⟨some 39, none, .h (.call (.k (.fn 23 [])) [(.t 38)])⟩,
 ⟨some 40, none, .p (.bin .add (.t 37) (.t 39))⟩,
 ⟨some 5, none, .p (.mv (.t 40))⟩])
 (.ops [⟨some 6, none, .p (.mv (.k (.s (.int .i64 0))))⟩]))
 .skip))
 (.seq (.seq (.ops [⟨some 41, none, .p (.mv (.t 7))⟩,
 ⟨some 42, none, .p (.bin .eql (.t 41) (.k (.s (.int .i64 8))))⟩])
 (.cond (.t 42)
 (.exit 0)
 .skip))
 (.seq (.seq (.ops [⟨some 43, none, .p (.mv (.t 8))⟩,
 ⟨some 44, none, .p (.un .not (.t 43))⟩])
 (.cond (.t 44)
 (.seq (.ops [⟨some 45, none, .p (.mv (.t 6))⟩,
 ⟨some 46, none, .p (.bin .add (.t 45) (.k (.s (.int .i64 1))))⟩,
 ⟨some 6, none, .p (.mv (.t 46))⟩])
 (.exit 1))
 .skip))
 (.seq (.ops [⟨some 47, none, .p (.mv (.t 1))⟩,
 ⟨some 48, none, .p (.bin .mul (.k (.s (.int .i64 8))) (.t 47))⟩,
 ⟨some 49, none, .p (.mv (.t 7))⟩,
 ⟨some 50, none, .p (.bin .add (.t 48) (.t 49))⟩,
 ⟨some 51, none, .p (.fa 0 128 (.t 2))⟩,
 ⟨some 52, none, .p (.ixa 64 2 (.t 51) (.t 50))⟩,
 ⟨some 53, none, .h (.load true 2 (.t 52))⟩,
 ⟨some 9, none, .h (.alloc (.ints 2))⟩,
 ⟨none, none, .h (.store 2 (.t 9) (.t 53))⟩])
 (.seq (.ops [⟨some 54, none, .p (.fa 1 1 (.t 9))⟩,
 ⟨some 55, none, .h (.load false 1 (.t 54))⟩,
 ⟨some 56, none, .p (.bin .eql (.t 55) (.k (.s (.int .i64 0))))⟩])
 (.cond (.t 56)
 (.ops [⟨some 57, none, .p (.mv (.t 5))⟩,
 ⟨some 58, none, .p (.fa 0 1 (.t 9))⟩,
 ⟨some 59, none, .h (.load false 1 (.t 58))⟩,
 ⟨some 60, none, .p (.bin .sub (.t 59) (.k (.s (.int .i64 1))))⟩,
 ⟨some 61, none, .p (.fa 0 1 (.t 9))⟩,
 ⟨some 62, none, .h (.load false 1 (.t 61))⟩,
 ⟨some 63, none, .p (.slS (.k (.s (.str ⟨#[80, 78, 66, 82, 81, 75]⟩))) (some (.t 60)) (some (.t 62)))⟩,
 ⟨some 64, none, .p (.bin .add (.t 57) (.t 63))⟩,
 ⟨some 5, none, .p (.mv (.t 64))⟩])
 (.ops [⟨some 65, none, .p (.mv (.t 5))⟩,
 ⟨some 66, none, .p (.fa 0 1 (.t 9))⟩,
 ⟨some 67, none, .h (.load false 1 (.t 66))⟩,
 ⟨some 68, none, .p (.bin .sub (.t 67) (.k (.s (.int .i64 1))))⟩,
 ⟨some 69, none, .p (.fa 0 1 (.t 9))⟩,
 ⟨some 70, none, .h (.load false 1 (.t 69))⟩,
 ⟨some 71, none, .p (.slS (.k (.s (.str ⟨#[112, 110, 98, 114, 113, 107]⟩))) (some (.t 68)) (some (.t 70)))⟩,
 ⟨some 72, none, .p (.bin .add (.t 65) (.t 71))⟩,
 ⟨some 5, none, .p (.mv (.t 72))⟩])))))))))
 (.ops [⟨some 12, none, .p (.mv (.t 7))⟩,
 ⟨some 13, none, .p (.bin .add (.t 12) (.k (.s (.int .i64 1))))⟩,
 ⟨some 7, none, .p (.mv (.t 13))⟩]))))))
 (.seq (.ops [⟨some 73, none, .p (.mv (.t 5))⟩,
 ⟨some 4, none, .p (.mv (.t 73))⟩])
 .ret)))))⟩
theorem c33 : compF Tryz.prog false Tryz.f33 = some a33 := by kernel_rfl
def a34 : AF := ⟨16, [.tmp 2],
 (.seq (.ops [⟨some 2, none, .p (.mv (.k (.s (.str ⟨#[]⟩))))⟩])
 (.seq (.seq (.ops [⟨some 3, none, .p (.mv (.t 0))⟩,
 ⟨some 4, none, .h (.call (.k (.fn 60 [])) [(.t 3)])⟩,
 ⟨some 5, none, .p (.un .not (.t 4))⟩])
 (.cond (.t 5)
 (.seq (.ops [⟨some 2, none, .p (.mv (.k (.s (.str ⟨#[]⟩))))⟩])
 .ret)
 .skip))
 (.seq (.ops [⟨some 6, none, .p (.mv (.t 0))⟩,
 ⟨some 7, none, .p (.bin .rem (.t 6) (.k (.s (.int .i64 8))))⟩,
 ⟨some 8, none, .p (.bin .add (.k (.s (.int .i64 97))) (.t 7))⟩,
 ⟨some 9, none, .p (.conv .u8 (.t 8))⟩,
 ⟨some 10, none, .p (.mv (.t 0))⟩,
 ⟨some 11, none, .p (.bin .quo (.t 10) (.k (.s (.int .i64 8))))⟩,
 ⟨some 12, none, .p (.bin .add (.k (.s (.int .i64 49))) (.t 11))⟩,
 ⟨some 13, none, .p (.conv .u8 (.t 12))⟩,
 ⟨some 14, none, .h (.mksl 2 1 (.one (.s (.int .u8 0))) [(0, (.t 9)), (1, (.t 13))])⟩,
 ⟨some 15, none, .h (.b2s (.t 14))⟩,
 ⟨some 2, none, .p (.mv (.t 15))⟩])
 .ret)))⟩
theorem c34 : compF Tryz.prog false Tryz.f34 = some a34 := by kernel_rfl
def a35 : AF := ⟨61, [.tmp 2],
 (.seq (.ops [⟨some 1, none, .h (.box (.t 0))⟩,
 ⟨some 2, none, .p (.mv (.k (.s (.bool false))))⟩])
 (.seq (.ops [⟨some 3, none, .h (.alloc (.ints 2))⟩])
 (.seq (.seq (.ops [⟨some 7, none, .p (.fa 0 133 (.t 1))⟩,
 ⟨some 8, none, .p (.fa 0 128 (.t 7))⟩,
 ⟨some 9, none, .h (.load true 128 (.t 8))⟩,
 ⟨some 10, none, .p (.mv (.k (.s (.int .i64 0))))⟩])
 (.block 0 (.loop (.seq (.ops [⟨some 11, none, .p (.bin .lss (.t 10) (.k (.s (.int .i64 64))))⟩])
 (.seq (.cond (.t 11)
 .skip
 (.exit 0))
 (.seq (.block 1 (.seq (.ops [⟨some 12, none, .p (.mv (.t 10))⟩,
 ⟨some 13, none, .p (.ix 64 2 true (.t 9) (.t 10))⟩,
 ⟨some 5, none, .h (.alloc (.ints 2))⟩,
 ⟨some 4, none, .p (.mv (.t 12))⟩,
 ⟨none, none, .h (.store 2 (.t 5) (.t 13))⟩])
 (.seq (.seq (.ops [⟨some 14, none, .h (.load true 2 (.t 5))⟩,
 ⟨some 15, none, .p (.build (.ints 2) [])⟩,
 ⟨some 16, none, .p (.eqa false 2 (.t 14) (.t 15))⟩])
 (.cond (.t 16)
 (.exit 1)
 .skip))
 (.seq (.ops [⟨some 17, none, .p (.mv (.t 4))⟩,
 ⟨some 18, none, .h (.call (.k (.fn 61 [])) [(.t 17)])⟩,
 ⟨some 19, none, .p (.bin .eql (.t 18) (.k (.s (.int .i64 0))))⟩,
 ⟨some 20, none, .p (.mv (.t 19))⟩,
 ⟨some 21, some (20, false), .p (.mv (.t 4))⟩,
 ⟨some 22, some (20, false), .h (.call (.k (.fn 61 [])) [(.t 21)])⟩,
 ⟨some 23, some (20, false), .p (.bin .eql (.t 22) (.k (.s (.int .i64 7))))⟩,
 ⟨some 24, none, .p (.pick (.t 20) (.k (.s (.bool true))) (.t 23))⟩,
 ⟨some 6, none, .p (.mv (.t 24))⟩])
 (.seq (.seq (.ops [⟨some 25, none, .h (.load true 2 (.t 5))⟩,
 ⟨some 26, none, .h (.call (.k (.fn 62 [])) [(.t 25)])⟩,
 ⟨some 27, none, .p (.un .not (.t 26))⟩,
 ⟨some 28, none, .p (.mv (.t 27))⟩,
 ⟨some 29, some (28, false), .p (.mv (.t 6))⟩,
 ⟨some 30, some (28, false), .p (.mv (.t 29))⟩,
 ⟨some 31, some (30, true), .p (.fa 0 1 (.t 5))⟩,
 ⟨some 32, some (30, true), .h (.load false 1 (.t 31))⟩,
 ⟨some 33, some (30, true), .p (.bin .eql (.t 32) (.k (.s (.int .i64 1))))⟩,
 ⟨some 34, some (28, false), .p (.pick (.t 30) (.t 33) (.k (.s (.bool false))))⟩,
 ⟨some 35, none, .p (.pick (.t 28) (.k (.s (.bool true))) (.t 34))⟩])
 (.cond (.t 35)
 (.seq (.ops [⟨some 2, none, .p (.mv (.k (.s (.bool false))))⟩])
 .ret)
 .skip))
 (.seq (.ops [⟨some 36, none, .p (.fa 0 1 (.t 5))⟩,
 ⟨some 37, none, .h (.load false 1 (.t 36))⟩,
 ⟨some 38, none, .p (.bin .eql (.t 37) (.k (.s (.int .i64 6))))⟩])
 (.cond (.t 38)
 (.ops [⟨some 39, none, .p (.fa 1 1 (.t 5))⟩,
 ⟨some 40, none, .h (.load false 1 (.t 39))⟩,
 ⟨some 41, none, .p (.ixa 2 1 (.t 3) (.t 40))⟩,
 ⟨some 42, none, .h (.load false 1 (.t 41))⟩,
 ⟨some 43, none, .p (.bin .add (.t 42) (.k (.s (.int .i64 1))))⟩,
 ⟨some 44, none, .p (.ixa 2 1 (.t 3) (.t 40))⟩,
 ⟨none, none, .h (.store 1 (.t 44) (.t 43))⟩])
 .skip)))))))
 (.ops [⟨some 45, none, .p (.bin .add (.t 10) (.k (.s (.int .i64 1))))⟩,
 ⟨some 10, none, .p (.mv (.t 45))⟩])))))))
 (.seq (.ops [⟨some 46, none, .h (.load true 2 (.t 3))⟩,
 ⟨some 47, none, .p (.build (.ints 2) [(0, 1, (.k (.s (.int .i64 1)))), (1, 1, (.k (.s (.int .i64 1))))])⟩,
 ⟨some 48, none, .p (.eqa false 2 (.t 46) (.t 47))⟩,
 ⟨some 49, none, .p (.mv (.t 48))⟩,
 ⟨some 50, some (49, true), .p (.fa 0 133 (.t 1))⟩,
 ⟨some 51, some (49, true), .p (.fa 128 1 (.t 50))⟩,
 ⟨some 52, some (49, true), .h (.load false 1 (.t 51))⟩,
 ⟨some 53, some (49, true), .p (.bin .eql (.t 52) (.k (.s (.int .i64 0))))⟩,
 ⟨some 54, some (49, true), .p (.mv (.t 53))⟩,
 ⟨some 55, some (54, false), .p (.fa 0 133 (.t 1))⟩,
 ⟨some 56, some (54, false), .p (.fa 128 1 (.t 55))⟩,
 ⟨some 57, some (54, false), .h (.load false 1 (.t 56))⟩,
 ⟨some 58, some (54, false), .p (.bin .eql (.t 57) (.k (.s (.int .i64 1))))⟩,
 ⟨some 59, some (49, true), .p (.pick (.t 54) (.k (.s (.bool true))) (.t 58))⟩,
 ⟨some 60, none, .p (.pick (.t 49) (.t 59) (.k (.s (.bool false))))⟩,
 ⟨some 2, none, .p (.mv (.t 60))⟩])
 .ret))))⟩
theorem c35 : compF Tryz.prog false Tryz.f35 = some a35 := by kernel_rfl
def a36 : AF := ⟨46, [.tmp 2],
 (.seq (.ops [⟨some 1, none, .h (.box (.t 0))⟩,
 ⟨some 2, none, .p (.mv (.k (.s (.bool false))))⟩])
 (.seq (.seq (.ops [⟨some 6, none, .p (.fa 0 133 (.t 1))⟩,
 ⟨some 7, none, .p (.fa 129 1 (.t 6))⟩,
 ⟨some 8, none, .h (.load false 1 (.t 7))⟩,
 ⟨some 9, none, .p (.bin .lss (.t 8) (.k (.s (.int .i64 0))))⟩,
 ⟨some 10, none, .p (.mv (.t 9))⟩,
 ⟨some 11, some (10, false), .p (.fa 0 133 (.t 1))⟩,
 ⟨some 12, some (10, false), .p (.fa 129 1 (.t 11))⟩,
 ⟨some 13, some (10, false), .h (.load false 1 (.t 12))⟩,
 ⟨some 14, some (10, false), .p (.bin .gtr (.t 13) (.k (.s (.int .i64 15))))⟩,
 ⟨some 15, none, .p (.pick (.t 10) (.k (.s (.bool true))) (.t 14))⟩])
 (.cond (.t 15)
 (.seq (.ops [⟨some 2, none, .p (.mv (.k (.s (.bool false))))⟩])
 .ret)
 .skip))
 (.seq (.seq (.ops [⟨some 16, none, .p (.build (.ints 4) [(0, 1, (.k (.s (.int .i64 7)))), (1, 1, (.k (.s (.int .i64 0)))), (2, 1, (.k (.s (.int .i64 63)))), (3, 1, (.k (.s (.int .i64 56))))])⟩,
 ⟨some 17, none, .p (.mv (.k (.s (.int .i64 0))))⟩])
 (.block 0 (.loop (.seq (.ops [⟨some 18, none, .p (.bin .lss (.t 17) (.k (.s (.int .i64 4))))⟩])
 (.seq (.cond (.t 18)
 .skip
 (.exit 0))
 (.seq (.block 1 (.seq (.ops [⟨some 19, none, .p (.mv (.t 17))⟩,
 ⟨some 20, none, .p (.ix 4 1 false (.t 16) (.t 17))⟩,
 ⟨some 3, none, .p (.mv (.t 19))⟩,
 ⟨some 4, none, .p (.mv (.t 20))⟩])
 (.seq (.seq (.ops [⟨some 21, none, .p (.fa 0 133 (.t 1))⟩,
 ⟨some 22, none, .p (.fa 129 1 (.t 21))⟩,
 ⟨some 23, none, .h (.load false 1 (.t 22))⟩,
 ⟨some 24, none, .p (.mv (.t 3))⟩,
 ⟨some 25, none, .p (.bin .shr (.t 23) (.t 24))⟩,
 ⟨some 26, none, .p (.bin .and (.t 25) (.k (.s (.int .i64 1))))⟩,
 ⟨some 27, none, .p (.bin .eql (.t 26) (.k (.s (.int .i64 0))))⟩])
 (.cond (.t 27)
 (.exit 1)
 .skip))
 (.seq (.ops [⟨some 28, none, .p (.mv (.t 3))⟩,
 ⟨some 29, none, .p (.bin .quo (.t 28) (.k (.s (.int .i64 2))))⟩,
 ⟨some 5, none, .p (.mv (.t 29))⟩])
 (.seq (.ops [⟨some 30, none, .h (.load true 133 (.t 1))⟩,
 ⟨some 31, none, .p (.mv (.t 5))⟩,
 ⟨some 32, none, .p (.mv (.t 4))⟩,
 ⟨some 33, none, .h (.call (.k (.fn 63 [])) [(.t 30), (.k (.s (.int .i64 4))), (.t 31), (.t 32)])⟩,
 ⟨some 34, none, .p (.un .not (.t 33))⟩,
 ⟨some 35, none, .p (.mv (.t 34))⟩,
 ⟨some 36, some (35, false), .h (.load true 133 (.t 1))⟩,
 ⟨some 37, some (35, false), .p (.mv (.t 5))⟩,
 ⟨some 38, some (35, false), .p (.mv (.t 4))⟩,
 ⟨some 39, some (35, false), .p (.bin .quo (.t 38) (.k (.s (.int .i64 8))))⟩,
 ⟨some 40, some (35, false), .p (.bin .mul (.t 39) (.k (.s (.int .i64 8))))⟩,
 ⟨some 41, some (35, false), .p (.bin .add (.t 40) (.k (.s (.int .i64 4))))⟩,
 ⟨some 42, some (35, false), .h (.call (.k (.fn 63 [])) [(.t 36), (.k (.s (.int .i64 6))), (.t 37), (.t 41)])⟩,
 ⟨some 43, some (35, false), .p (.un .not (.t 42))⟩,
 ⟨some 44, none, .p (.pick (.t 35) (.k (.s (.bool true))) (.t 43))⟩])
 (.cond (.t 44)
 (.seq (.ops [⟨some 2, none, .p (.mv (.k (.s (.bool false))))⟩])
 .ret)
 .skip))))))
 (.ops [⟨some 45, none, .p (.bin .add (.t 17) (.k (.s (.int .i64 1))))⟩,
 ⟨some 17, none, .p (.mv (.t 45))⟩])))))))
 (.seq (.ops [⟨some 2, none, .p (.mv (.k (.s (.bool true))))⟩])
 .ret))))⟩
theorem c36 : compF Tryz.prog false Tryz.f36 = some a36 := by kernel_rfl
def a37 : AF := ⟨55, [.tmp 2],
 (.seq (.ops [⟨some 1, none, .h (.box (.t 0))⟩,
 ⟨some 2, none, .p (.mv (.k (.s (.bool false))))⟩])
 (.seq (.seq (.ops [⟨some 6, none, .p (.fa 0 133 (.t 1))⟩,
 ⟨some 7, none, .p (.fa 130 1 (.t 6))⟩,
 ⟨some 8, none, .h (.load false 1 (.t 7))⟩,
 ⟨some 9, none, .p (.bin .eql (.t 8) (.k (.s (.int .i64 (-1)))))⟩])
 (.cond (.t 9)
 (.seq (.ops [⟨some 2, none, .p (.mv (.k (.s (.bool true))))⟩])
 .ret)
 .skip))
 (.seq (.ops [⟨some 3, none, .p (.mv (.k (.s (.int .i64 5))))⟩,
 ⟨some 4, none, .p (.mv (.k (.s (.int .i64 1))))⟩])
 (.seq (.seq (.ops [⟨some 10, none, .p (.fa 0 133 (.t 1))⟩,
 ⟨some 11, none, .p (.fa 128 1 (.t 10))⟩,
 ⟨some 12, none, .h (.load false 1 (.t 11))⟩,
 ⟨some 13, none, .p (.bin .eql (.t 12) (.k (.s (.int .i64 1))))⟩])
 (.cond (.t 13)
 (.ops [⟨some 3, none, .p (.mv (.k (.s (.int .i64 2))))⟩,
 ⟨some 4, none, .p (.mv (.k (.s (.int .i64 (-1)))))⟩])
 .skip))
 (.seq (.seq (.ops [⟨some 14, none, .p (.fa 0 133 (.t 1))⟩,
 ⟨some 15, none, .p (.fa 130 1 (.t 14))⟩,
 ⟨some 16, none, .h (.load false 1 (.t 15))⟩,
 ⟨some 17, none, .h (.call (.k (.fn 61 [])) [(.t 16)])⟩,
 ⟨some 18, none, .p (.mv (.t 3))⟩,
 ⟨some 19, none, .p (.bin .neq (.t 17) (.t 18))⟩,
 ⟨some 20, none, .p (.mv (.t 19))⟩,
 ⟨some 21, some (20, false), .p (.fa 0 133 (.t 1))⟩,
 ⟨some 22, some (20, false), .p (.fa 131 1 (.t 21))⟩,
 ⟨some 23, some (20, false), .h (.load false 1 (.t 22))⟩,
 ⟨some 24, some (20, false), .p (.bin .neq (.t 23) (.k (.s (.int .i64 0))))⟩,
 ⟨some 25, none, .p (.pick (.t 20) (.k (.s (.bool true))) (.t 24))⟩])
 (.cond (.t 25)
 (.seq (.ops [⟨some 2, none, .p (.mv (.k (.s (.bool false))))⟩])
 .ret)
 .skip))
 (.seq (.ops [⟨some 26, none, .p (.mkfn 64 [(.t 1)])⟩,
 ⟨some 5, none, .p (.mv (.t 26))⟩])
 (.seq (.par [⟨some 27, none, .p (.mv (.t 5))⟩,
 ⟨some 28, none, .p (.fa 0 133 (.t 1))⟩,
 ⟨some 29, none, .p (.fa 130 1 (.t 28))⟩,
 ⟨some 30, none, .h (.load false 1 (.t 29))⟩,
 ⟨some 31, none, .h (.call (.t 27) [(.t 30)])⟩,
 ⟨some 32, none, .p (.mv (.t 31))⟩,
 ⟨some 33, some (32, true), .p (.mv (.t 5))⟩,
 ⟨some 34, some (32, true), .p (.fa 0 133 (.t 1))⟩,
 ⟨some 35, some (32, true), .p (.fa 130 1 (.t 34))⟩,
 ⟨some 36, some (32, true), .h (.load false 1 (.t 35))⟩,
 ⟨some 37, some (32, true), .p (.mv (.t 4))⟩,
 ⟨some 38, some (32, true), .h (.call (.k (.fn 65 [])) [(.t 36), (.k (.s (.int .i64 0))), (.t 37)])⟩,
 ⟨some 39, some (32, true), .h (.call (.t 33) [(.t 38)])⟩,
 ⟨some 40, none, .p (.pick (.t 32) (.t 39) (.k (.s (.bool false))))⟩,
 ⟨some 41, none, .p (.mv (.t 40))⟩,
 ⟨some 42, some (41, true), .h (.load true 133 (.t 1))⟩,
 ⟨some 43, some (41, true), .p (.fa 0 133 (.t 1))⟩,
 ⟨some 44, some (41, true), .p (.fa 128 1 (.t 43))⟩,
 ⟨some 45, some (41, true), .h (.load false 1 (.t 44))⟩,
 ⟨some 46, some (41, true), .h (.callq (.k (.fn 66 [])) [(.t 45)])⟩,
 ⟨some 47, some (41, true), .p (.fa 0 133 (.t 1))⟩,
 ⟨some 48, some (41, true), .p (.fa 130 1 (.t 47))⟩,
 ⟨some 49, some (41, true), .h (.load false 1 (.t 48))⟩,
 ⟨some 50, some (41, true), .p (.mv (.t 4))⟩,
 ⟨some 51, some (41, true), .p (.un .neg (.t 50))⟩,
 ⟨some 52, some (41, true), .h (.callq (.k (.fn 65 [])) [(.t 49), (.k (.s (.int .i64 0))), (.t 51)])⟩,
 ⟨some 53, some (41, true), .h (.call (.k (.fn 63 [])) [(.t 42), (.k (.s (.int .i64 1))), (.t 46), (.t 52)])⟩,
 ⟨some 54, none, .p (.pick (.t 41) (.t 53) (.k (.s (.bool false))))⟩,
 ⟨some 2, none, .p (.mv (.t 54))⟩])
 .ret)))))))⟩
theorem c37 : compF Tryz.prog false Tryz.f37 = some a37 := by kernel_rfl
def a38 : AF := ⟨9, [.tmp 4],
 (.seq (.ops [⟨some 4, none, .p (.mv (.k (.s (.int .i64 0))))⟩])
 (.seq (.ops [⟨some 5, none, .p (.mv (.t 0))⟩,
 ⟨some 6, none, .p (.mv (.t 1))⟩,
 ⟨some 7, none, .p (.build (.ints 2) [(0, 1, (.t 5)), (1, 1, (.t 6))])⟩,
 ⟨some 8, none, .h (.call (.k (.fn 67 [])) [(.t 7)])⟩,
 ⟨some 4, none, .p (.mv (.t 8))⟩])
 .ret))⟩
theorem c38 : compF Tryz.prog false Tryz.f38 = some a38 := by kernel_rfl
def a39 : AF := ⟨19, [.tmp 4, .tmp 5],
 (.seq (.ops [⟨some 4, none, .p (.mv (.k (.s (.int .i64 0))))⟩,
 ⟨some 5, none, .p (.mv (.k .inil))⟩])
 (.seq (.ops [⟨some 6, none, .p (.mv (.t 0))⟩,
 ⟨some 7, none, .h (.call (.k (.fn 68 [])) [(.t 6)])⟩])
 (.seq (.ops [⟨some 8, none, .p (.mv (.t 0))⟩,
 ⟨some 9, none, .p (.mv (.t 0))⟩,
 ⟨some 10, none, .p (.nilck (.t 9))⟩,
 ⟨some 11, none, .p (.fa 1 1 (.t 10))⟩,
 ⟨some 12, none, .h (.load false 1 (.t 11))⟩,
 ⟨some 13, none, .p (.mv (.t 1))⟩,
 ⟨some 14, none, .h (.appendb 5 1 (.t 12) (.t 13))⟩,
 ⟨some 15, none, .p (.nilck (.t 8))⟩,
 ⟨some 16, none, .p (.fa 1 1 (.t 15))⟩,
 ⟨none, none, .h (.store 1 (.t 16) (.t 14))⟩])
 (.seq (.ops [⟨some 17, none, .p (.mv (.t 1))⟩,
 ⟨some 18, none, .p (.lenS (.t 17))⟩,
 ⟨some 4, none, .p (.mv (.t 18))⟩,
 ⟨some 5, none, .p (.mv (.k .inil))⟩])
 .ret))))⟩
theorem c39 : compF Tryz.prog false Tryz.f39 = some a39 := by kernel_rfl
def a40 : AF := ⟨16, [.tmp 2],
 (.seq (.ops [⟨some 1, none, .h (.box (.t 0))⟩,
 ⟨some 2, none, .p (.mv (.k (.s (.str ⟨#[]⟩))))⟩])
 (.seq (.ops [⟨some 4, none, .p (.fa 0 1 (.t 1))⟩,
 ⟨some 5, none, .h (.load false 1 (.t 4))⟩,
 ⟨some 6, none, .p (.fa 0 1 (.t 1))⟩,
 ⟨some 7, none, .h (.load false 1 (.t 6))⟩,
 ⟨some 8, none, .p (.bin .add (.t 7) (.k (.s (.int .i64 1))))⟩,
 ⟨some 9, none, .p (.slS (.k (.s (.str ⟨#[32, 80, 78, 66, 82, 81, 75]⟩))) (some (.t 5)) (some (.t 8)))⟩,
 ⟨some 3, none, .p (.mv (.t 9))⟩])
 (.seq (.seq (.ops [⟨some 10, none, .p (.fa 1 1 (.t 1))⟩,
 ⟨some 11, none, .h (.load false 1 (.t 10))⟩,
 ⟨some 12, none, .p (.bin .eql (.t 11) (.k (.s (.int .i64 1))))⟩])
 (.cond (.t 12)
 (.ops [⟨some 13, none, .p (.mv (.t 3))⟩,
 ⟨some 14, none, .h (.call (.k (.fn 69 [])) [(.t 13)])⟩,
 ⟨some 3, none, .p (.mv (.t 14))⟩])
 .skip))
 (.seq (.ops [⟨some 15, none, .p (.mv (.t 3))⟩,
 ⟨some 2, none, .p (.mv (.t 15))⟩])
 .ret))))⟩
theorem c40 : compF Tryz.prog false Tryz.f40 = some a40 := by kernel_rfl
def a42 : AF := ⟨25, [],
 (.seq (.ops [⟨some 4, none, .p (.mv (.t 0))⟩,
 ⟨some 5, none, .h (.call (.k (.fn 68 [])) [(.t 4)])⟩])
 (.seq (.seq (.ops [⟨some 6, none, .p (.mv (.t 1))⟩,
 ⟨some 7, none, .p (.bin .lss (.t 6) (.k (.s (.int .i64 0))))⟩])
 (.cond (.t 7)
 (.ops [⟨some 8, none, .p (.mkif 9 (.k (.s (.str ⟨#[115, 116, 114, 105, 110, 103, 115, 46, 66, 117, 105, 108, 100, 101, 114, 46, 71, 114, 111, 119, 58, 32, 110, 101, 103, 97, 116, 105, 118, 101, 32, 99, 111, 117, 110, 116]⟩))))⟩,
 ⟨none, none, .h (.pnc (.t 8))⟩])
 .skip))
 (.seq (.par [⟨some 9, none, .p (.mv (.t 0))⟩,
 ⟨some 10, none, .p (.nilck (.t 9))⟩,
 ⟨some 11, none, .p (.fa 1 1 (.t 10))⟩,
 ⟨some 12, none, .h (.load false 1 (.t 11))⟩,
 ⟨some 13, none, .p (.capN (.t 12))⟩,
 ⟨some 14, none, .p (.mv (.t 0))⟩,
 ⟨some 15, none, .p (.nilck (.t 14))⟩,
 ⟨some 16, none, .p (.fa 1 1 (.t 15))⟩,
 ⟨some 17, none, .h (.load false 1 (.t 16))⟩,
 ⟨some 18, none, .p (.len (.t 17))⟩,
 ⟨some 19, none, .p (.bin .sub (.t 13) (.t 18))⟩,
 ⟨some 20, none, .p (.mv (.t 1))⟩,
 ⟨some 21, none, .p (.bin .lss (.t 19) (.t 20))⟩])
 (.cond (.t 21)
 (.ops [⟨some 22, none, .p (.mv (.t 0))⟩,
 ⟨some 23, none, .p (.mv (.t 1))⟩,
 ⟨some 24, none, .h (.call (.k (.fn 70 [])) [(.t 22), (.t 23)])⟩])
 .skip))))⟩
theorem c42 : compF Tryz.prog false Tryz.f42 = some a42 := by kernel_rfl
def a43 : AF := ⟨17, [.cell 2 true 3],
 (.seq (.ops [⟨some 2, none, .h (.alloc (.scl [(.int .i64 0), (.int .i64 0), (.bool false)]))⟩])
 (.seq (.seq (.ops [⟨some 3, none, .p (.mv (.t 0))⟩,
 ⟨some 4, none, .p (.bin .lss (.t 3) (.k (.s (.int .i64 0))))⟩,
 ⟨some 5, none, .p (.mv (.t 4))⟩,
 ⟨some 6, some (5, false), .p (.mv (.t 0))⟩,
 ⟨some 7, some (5, false), .p (.bin .geq (.t 6) (.k (.s (.int .i64 64))))⟩,
 ⟨some 8, none, .p (.pick (.t 5) (.k (.s (.bool true))) (.t 7))⟩])
 (.cond (.t 8)
 (.seq (.ops [⟨some 9, none, .p (.build (.ints 2) [(0, 1, (.k (.s (.int .i64 (-1))))), (1, 1, (.k (.s (.int .i64 (-1)))))])⟩,
 ⟨some 10, none, .p (.build (.scl [(.int .i64 0), (.int .i64 0), (.bool false)]) [(0, 2, (.t 9))])⟩,
 ⟨none, none, .h (.store 3 (.t 2) (.t 10))⟩])
 .ret)
 .skip))
 (.seq (.ops [⟨some 11, none, .p (.mv (.t 0))⟩,
 ⟨some 12, none, .p (.bin .rem (.t 11) (.k (.s (.int .i64 8))))⟩,
 ⟨some 13, none, .p (.mv (.t 0))⟩,
 ⟨some 14, none, .p (.bin .quo (.t 13) (.k (.s (.int .i64 8))))⟩,
 ⟨some 15, none, .p (.build (.ints 2) [(0, 1, (.t 12)), (1, 1, (.t 14))])⟩,
 ⟨some 16, none, .p (.build (.scl [(.int .i64 0), (.int .i64 0), (.bool false)]) [(0, 2, (.t 15)), (2, 1, (.k (.s (.bool true))))])⟩,
 ⟨none, none, .h (.store 3 (.t 2) (.t 16))⟩])
 .ret)))⟩
theorem c43 : compF Tryz.prog false Tryz.f43 = some a43 := by kernel_rfl
def a45 : AF := ⟨23, [.tmp 0],
 (.seq (.ops [⟨some 0, none, .p (.mv (.k .mnil))⟩])
 (.seq (.ops [⟨some 5, none, .h (.mkmap)⟩,
 ⟨some 1, none, .p (.mv (.t 5))⟩])
 (.seq (.seq (.ops [⟨some 2, none, .p (.mv (.k (.s (.int .i64 1))))⟩])
 (.block 0 (.loop (.seq (.seq (.ops [⟨some 6, none, .p (.mv (.t 2))⟩,
 ⟨some 7, none, .p (.bin .leq (.t 6) (.k (.s (.int .i64 6))))⟩])
 (.cond (.t 7)
 .skip
 (.exit 0)))
 (.seq (.block 1 (.seq (.ops [⟨some 3, none, .p (.mv (.k (.s (.int .i64 0))))⟩])
 (.block 2 (.loop (.seq (.seq (.ops [⟨some 10, none, .p (.mv (.t 3))⟩,
 ⟨some 11, none, .p (.bin .leq (.t 10) (.k (.s (.int .i64 1))))⟩])
 (.cond (.t 11)
 .skip
 (.exit 2)))
 (.seq (.block 3 (.seq (.ops [⟨some 14, none, .p (.mv (.t 2))⟩,
 ⟨some 15, none, .p (.mv (.t 3))⟩,
 ⟨some 16, none, .p (.build (.ints 2) [(0, 1, (.t 14)), (1, 1, (.t 15))])⟩,
 ⟨some 4, none, .h (.alloc (.ints 2))⟩,
 ⟨none, none, .h (.store 2 (.t 4) (.t 16))⟩])
 (.par [⟨some 17, none, .p (.mv (.t 1))⟩,
 ⟨some 18, none, .h (.load true 2 (.t 4))⟩,
 ⟨some 19, none, .h (.callq (.k (.fn 40 [])) [(.t 18)])⟩,
 ⟨some 20, none, .p (.ixstr (.t 19) (.k (.s (.int .i64 0))))⟩,
 ⟨some 21, none, .h (.load true 2 (.t 4))⟩,
 ⟨none, none, .h (.mput (.t 17) (.t 20) (.t 21))⟩])))
 (.ops [⟨some 12, none, .p (.mv (.t 3))⟩,
 ⟨some 13, none, .p (.bin .add (.t 12) (.k (.s (.int .i64 1))))⟩,
 ⟨some 3, none, .p (.mv (.t 13))⟩])))))))
 (.ops [⟨some 8, none, .p (.mv (.t 2))⟩,
 ⟨some 9, none, .p (.bin .add (.t 8) (.k (.s (.int .i64 1))))⟩,
 ⟨some 2, none, .p (.mv (.t 9))⟩]))))))
 (.seq (.ops [⟨some 22, none, .p (.mv (.t 1))⟩,
 ⟨some 0, none, .p (.mv (.t 22))⟩])
 .ret))))⟩
theorem c45 : compF Tryz.prog false Tryz.f45 = some a45 := by kernel_rfl
def a46 : AF := ⟨46, [],
 (.seq (.ops [⟨some 6, none, .p (.mv (.k (.s (.bool true))))⟩])
 (.seq (.ops [⟨some 7, none, .p (.mv (.k (.s (.int .i64 0))))⟩])
 (.block 0 (.loop (.seq (.seq (.ops [⟨some 12, none, .p (.mv (.t 7))⟩,
 ⟨some 13, none, .p (.bin .lss (.t 12) (.k (.s (.int .i64 8))))⟩])
 (.cond (.t 13)
 .skip
 (.exit 0)))
 (.block 1 (.seq (.ops [⟨some 8, none, .p (.mv (.k (.s (.str ⟨#[]⟩))))⟩])
 (.seq (.seq (.ops [⟨some 14, none, .p (.mv (.t 6))⟩])
 (.cond (.t 14)
 (.ops [⟨some 15, none, .p (.mv (.t 7))⟩,
 ⟨some 16, none, .p (.bin .sub (.k (.s (.int .i64 9))) (.t 15))⟩,
 ⟨some 17, none, .p (.slS (.k (.s (.str ⟨#[48, 49, 50, 51, 52, 53, 54, 55, 56, 57]⟩))) (some (.k (.s (.int .i64 1)))) (some (.t 16)))⟩,
 ⟨some 8, none, .p (.mv (.t 17))⟩])
 .skip))
 (.seq (.ops [⟨some 18, none, .p (.mv (.t 0))⟩,
 ⟨some 19, none, .p (.mv (.t 8))⟩,
 ⟨some 20, none, .h (.mksl 2 1 (.one (.s (.str ⟨#[]⟩))) [(0, (.t 19)), (1, (.k (.s (.str ⟨#[80, 78, 66, 82, 81, 75, 112, 110, 98, 114, 113, 107]⟩))))])⟩,
 ⟨some 21, none, .h (.call (.k (.fn 47 [])) [(.t 18), (.t 20)])⟩,
 ⟨some 9, none, .p (.mv (.t 21))⟩])
 (.seq (.ops [⟨some 23, none, .p (.mv (.t 2))⟩,
 ⟨some 24, none, .p (.mv (.t 9))⟩,
 ⟨some 25, none, .h (.mget (.ints 2) true (.t 23) (.t 24))⟩,
 ⟨some 22, none, .p (.mv (.t 25))⟩,
 ⟨some 26, none, .p (.ext (.t 22) 0)⟩,
 ⟨some 27, none, .p (.ext (.t 22) 1)⟩,
 ⟨some 10, none, .h (.alloc (.ints 2))⟩,
 ⟨none, none, .h (.store 2 (.t 10) (.t 26))⟩,
 ⟨some 11, none, .p (.mv (.t 27))⟩])
 (.seq (.seq (.ops [⟨some 28, none, .p (.mv (.t 11))⟩])
 (.cond (.t 28)
 (.seq (.par [⟨some 29, none, .p (.mv (.t 0))⟩,
 ⟨some 30, none, .p (.mv (.t 7))⟩,
 ⟨some 31, none, .p (.mv (.t 1))⟩,
 ⟨some 32, none, .h (.callq (.k (.fn 38 [])) [(.t 30), (.t 31)])⟩,
 ⟨some 33, none, .h (.load true 2 (.t 10))⟩,
 ⟨some 34, none, .p (.nilck (.t 29))⟩,
 ⟨some 35, none, .p (.fa 2 133 (.t 34))⟩,
 ⟨some 36, none, .p (.fa 0 128 (.t 35))⟩,
 ⟨some 37, none, .p (.ixa 64 2 (.t 36) (.t 32))⟩,
 ⟨none, none, .h (.store 2 (.t 37) (.t 33))⟩])
 (.ops [⟨some 38, none, .p (.mv (.t 7))⟩,
 ⟨some 39, none, .p (.bin .add (.t 38) (.k (.s (.int .i64 1))))⟩,
 ⟨some 7, none, .p (.mv (.t 39))⟩]))
 (.ops [⟨some 40, none, .p (.mv (.t 7))⟩,
 ⟨some 41, none, .p (.mv (.t 9))⟩,
 ⟨some 42, none, .p (.bin .sub (.t 41) (.k (.s (.int .u8 48))))⟩,
 ⟨some 43, none, .p (.conv .i64 (.t 42))⟩,
 ⟨some 44, none, .p (.bin .add (.t 40) (.t 43))⟩,
 ⟨some 7, none, .p (.mv (.t 44))⟩])))
 (.ops [⟨some 45, none, .p (.mv (.t 11))⟩,
 ⟨some 6, none, .p (.mv (.t 45))⟩]))))))))))))⟩
theorem c46 : compF Tryz.prog false Tryz.f46 = some a46 := by kernel_rfl
def a47 : AF := ⟨21, [.tmp 4],
 (.seq (.ops [⟨some 4, none, .p (.mv (.k (.s (.int .u8 0))))⟩])
 (.seq (.ops [⟨some 6, none, .p (.mv (.t 0))⟩,
 ⟨some 7, none, .p (.nilck (.t 6))⟩,
 ⟨some 8, none, .p (.fa 0 2 (.t 7))⟩,
 ⟨some 9, none, .p (.mv (.t 1))⟩,
 ⟨some 10, none, .h (.call (.k (.fn 72 [])) [(.t 8), (.t 9)])⟩,
 ⟨some 5, none, .p (.mv (.t 10))⟩])
 (.seq (.seq (.ops [⟨some 11, none, .p (.mv (.t 5))⟩,
 ⟨some 12, none, .p (.bin .eql (.t 11) (.k (.s (.int .u8 0))))⟩])
 (.cond (.t 12)
 (.ops [⟨some 13, none, .p (.mv (.t 0))⟩,
 ⟨some 14, none, .p (.nilck (.t 13))⟩,
 ⟨some 15, none, .p (.fa 0 2 (.t 14))⟩,
 ⟨some 16, none, .p (.fa 1 1 (.t 15))⟩,
 ⟨some 17, none, .h (.load false 1 (.t 16))⟩,
 ⟨some 18, none, .p (.build (.ints 1) [(0, 1, (.t 17))])⟩,
 ⟨some 19, none, .p (.mkif 49 (.t 18))⟩,
 ⟨none, none, .h (.pnc (.t 19))⟩])
 .skip))
 (.seq (.ops [⟨some 20, none, .p (.mv (.t 5))⟩,
 ⟨some 4, none, .p (.mv (.t 20))⟩])
 .ret))))⟩
theorem c47 : compF Tryz.prog false Tryz.f47 = some a47 := by kernel_rfl
def a48 : AF := ⟨9, [],
 (.parc [[0, 1, 2, 3, 4, 5, 6, 7, 8], [0, 2, 1, 3, 4, 5, 6, 7, 8], [1, 0, 2, 3, 4, 5, 6, 7, 8], [1, 2, 0, 3, 4, 5, 6, 7, 8], [1, 2, 3, 0, 4, 5, 6, 7, 8], [1, 2, 3, 4, 0, 5, 6, 7, 8], [2, 0, 1, 3, 4, 5, 6, 7, 8], [2, 1, 0, 3, 4, 5, 6, 7, 8], [2, 1, 3, 0, 4, 5, 6, 7, 8], [2, 1, 3, 4, 0, 5, 6, 7, 8]] [⟨some 1, none, .h (.load false 1 (.t 0))⟩,
 ⟨some 2, none, .h (.load false 1 (.t 0))⟩,
 ⟨some 3, none, .h (.mksl 1 1 (.one (.s (.str ⟨#[]⟩))) [(0, (.k (.s (.str ⟨#[119, 98]⟩))))])⟩,
 ⟨some 4, none, .h (.call (.k (.fn 47 [])) [(.t 2), (.t 3)])⟩,
 ⟨some 5, none, .h (.call (.k (.fn 49 [])) [(.k (.s (.str ⟨#[119, 98]⟩))), (.t 4)])⟩,
 ⟨some 6, none, .p (.nilck (.t 1))⟩,
 ⟨some 7, none, .p (.fa 2 133 (.t 6))⟩,
 ⟨some 8, none, .p (.fa 128 1 (.t 7))⟩,
 ⟨none, none, .h (.store 1 (.t 8) (.t 5))⟩])⟩
theorem c48 : compF Tryz.prog true Tryz.f48 = some a48 := by kernel_rfl
def a50 : AF := ⟨48, [],
 (.seq (.seq (.ops [⟨some 6, none, .p (.mv (.t 0))⟩,
 ⟨some 7, none, .p (.nilck (.t 6))⟩,
 ⟨some 8, none, .p (.fa 0 2 (.t 7))⟩,
 ⟨some 9, none, .h (.mksl 1 1 (.one (.s (.str ⟨#[]⟩))) [(0, (.k (.s (.str ⟨#[45]⟩))))])⟩,
 ⟨some 10, none, .h (.call (.k (.fn 72 [])) [(.t 8), (.t 9)])⟩,
 ⟨some 11, none, .p (.bin .neq (.t 10) (.k (.s (.int .u8 0))))⟩])
 (.cond (.t 11)
 .ret
 .skip))
 (.seq (.ops [⟨some 2, none, .p (.mv (.k (.s (.int .i64 0))))⟩])
 (.seq (.ops [⟨some 3, none, .p (.mv (.k (.s (.bool true))))⟩])
 (.block 0 (.loop (.seq (.block 1 (.seq (.par [⟨some 12, none, .p (.mv (.t 0))⟩,
 ⟨some 13, none, .p (.nilck (.t 12))⟩,
 ⟨some 14, none, .p (.fa 0 2 (.t 13))⟩,
 ⟨some 15, none, .p (.mv (.t 2))⟩,
 ⟨some 16, none, .p (.slS (.k (.s (.str ⟨#[75, 81, 107, 113]⟩))) (some (.t 15)) none)⟩,
 ⟨some 17, none, .h (.mksl 1 1 (.one (.s (.str ⟨#[]⟩))) [(0, (.t 16))])⟩,
 ⟨some 18, none, .h (.call (.k (.fn 72 [])) [(.t 14), (.t 17)])⟩,
 ⟨some 4, none, .p (.mv (.t 18))⟩])
 (.seq (.seq (.ops [⟨some 19, none, .p (.mv (.t 4))⟩,
 ⟨some 20, none, .p (.bin .eql (.t 19) (.k (.s (.int .u8 0))))⟩,
 ⟨some 21, none, .p (.mv (.t 20))⟩,
 ⟨some 22, some (21, true), .p (.mv (.t 3))⟩,
 ⟨some 23, none, .p (.pick (.t 21) (.t 22) (.k (.s (.bool false))))⟩])
 (.cond (.t 23)
 (.ops [⟨some 24, none, .p (.mv (.t 0))⟩,
 ⟨some 25, none, .p (.nilck (.t 24))⟩,
 ⟨some 26, none, .p (.fa 0 2 (.t 25))⟩,
 ⟨some 27, none, .p (.fa 1 1 (.t 26))⟩,
 ⟨some 28, none, .h (.load false 1 (.t 27))⟩,
 ⟨some 29, none, .p (.build (.ints 1) [(0, 1, (.t 28))])⟩,
 ⟨some 30, none, .p (.mkif 49 (.t 29))⟩,
 ⟨none, none, .h (.pnc (.t 30))⟩])
 .skip))
 (.seq (.seq (.ops [⟨some 31, none, .p (.mv (.t 4))⟩,
 ⟨some 32, none, .p (.bin .eql (.t 31) (.k (.s (.int .u8 0))))⟩])
 (.cond (.t 32)
 .ret
 .skip))
 (.seq (.ops [⟨some 33, none, .p (.mv (.t 4))⟩,
 ⟨some 34, none, .h (.call (.k (.fn 49 [])) [(.k (.s (.str ⟨#[75, 81, 107, 113]⟩))), (.t 33)])⟩,
 ⟨some 5, none, .p (.mv (.t 34))⟩])
 (.seq (.par [⟨some 35, none, .p (.mv (.t 0))⟩,
 ⟨some 36, none, .p (.nilck (.t 35))⟩,
 ⟨some 37, none, .p (.fa 2 133 (.t 36))⟩,
 ⟨some 38, none, .p (.fa 129 1 (.t 37))⟩,
 ⟨some 39, none, .h (.load false 1 (.t 38))⟩,
 ⟨some 40, none, .p (.mv (.t 5))⟩,
 ⟨some 41, none, .p (.bin .shl (.k (.s (.int .i64 1))) (.t 40))⟩,
 ⟨some 42, none, .p (.bin .or (.t 39) (.t 41))⟩,
 ⟨some 43, none, .p (.nilck (.t 35))⟩,
 ⟨some 44, none, .p (.fa 2 133 (.t 43))⟩,
 ⟨some 45, none, .p (.fa 129 1 (.t 44))⟩,
 ⟨none, none, .h (.store 1 (.t 45) (.t 42))⟩])
 (.ops [⟨some 46, none, .p (.mv (.t 5))⟩,
 ⟨some 47, none, .p (.bin .add (.t 46) (.k (.s (.int .i64 1))))⟩,
 ⟨some 2, none, .p (.mv (.t 47))⟩])))))))
 (.ops [⟨some 3, none, .p (.mv (.k (.s (.bool false))))⟩])))))))⟩
theorem c50 : compF Tryz.prog false Tryz.f50 = some a50 := by kernel_rfl
def a51 : AF := ⟨29, [],
 (.seq (.ops [⟨some 3, none, .p (.mv (.t 0))⟩,
 ⟨some 4, none, .p (.nilck (.t 3))⟩,
 ⟨some 5, none, .p (.fa 2 133 (.t 4))⟩,
 ⟨some 6, none, .p (.fa 130 1 (.t 5))⟩,
 ⟨none, none, .h (.store 1 (.t 6) (.k (.s (.int .i64 (-1)))))⟩])
 (.seq (.ops [⟨some 7, none, .p (.mv (.t 0))⟩,
 ⟨some 8, none, .p (.nilck (.t 7))⟩,
 ⟨some 9, none, .p (.fa 0 2 (.t 8))⟩,
 ⟨some 10, none, .h (.mksl 1 1 (.one (.s (.str ⟨#[]⟩))) [(0, (.k (.s (.str ⟨#[45]⟩))))])⟩,
 ⟨some 11, none, .h (.call (.k (.fn 72 [])) [(.t 9), (.t 10)])⟩,
 ⟨some 12, none, .p (.bin .eql (.t 11) (.k (.s (.int .u8 0))))⟩])
 (.cond (.t 12)
 (.seq (.ops [⟨some 13, none, .p (.mv (.t 0))⟩,
 ⟨some 14, none, .h (.mksl 1 1 (.one (.s (.str ⟨#[]⟩))) [(0, (.k (.s (.str ⟨#[97, 98, 99, 100, 101, 102, 103, 104]⟩))))])⟩,
 ⟨some 15, none, .h (.call (.k (.fn 47 [])) [(.t 13), (.t 14)])⟩,
 ⟨some 2, none, .p (.mv (.t 15))⟩])
 (.ops [⟨some 16, none, .p (.mv (.t 0))⟩,
 ⟨some 17, none, .p (.mv (.t 2))⟩,
 ⟨some 18, none, .p (.bin .sub (.t 17) (.k (.s (.int .u8 97))))⟩,
 ⟨some 19, none, .p (.conv .i64 (.t 18))⟩,
 ⟨some 20, none, .p (.mv (.t 0))⟩,
 ⟨some 21, none, .h (.mksl 1 1 (.one (.s (.str ⟨#[]⟩))) [(0, (.k (.s (.str ⟨#[49, 50, 51, 52, 53, 54, 55, 56]⟩))))])⟩,
 ⟨some 22, none, .h (.call (.k (.fn 47 [])) [(.t 20), (.t 21)])⟩,
 ⟨some 23, none, .p (.bin .sub (.t 22) (.k (.s (.int .u8 49))))⟩,
 ⟨some 24, none, .p (.conv .i64 (.t 23))⟩,
 ⟨some 25, none, .h (.call (.k (.fn 38 [])) [(.t 19), (.t 24)])⟩,
 ⟨some 26, none, .p (.nilck (.t 16))⟩,
 ⟨some 27, none, .p (.fa 2 133 (.t 26))⟩,
 ⟨some 28, none, .p (.fa 130 1 (.t 27))⟩,
 ⟨none, none, .h (.store 1 (.t 28) (.t 25))⟩]))
 .skip)))⟩
theorem c51 : compF Tryz.prog false Tryz.f51 = some a51 := by kernel_rfl
def a52 : AF := ⟨7, [],
 (.parc [[0, 1, 2, 3, 4, 5, 6], [1, 0, 2, 3, 4, 5, 6], [1, 2, 0, 3, 4, 5, 6]] [⟨some 1, none, .h (.load false 1 (.t 0))⟩,
 ⟨some 2, none, .h (.load false 1 (.t 0))⟩,
 ⟨some 3, none, .h (.call (.k (.fn 53 [])) [(.t 2)])⟩,
 ⟨some 4, none, .p (.nilck (.t 1))⟩,
 ⟨some 5, none, .p (.fa 2 133 (.t 4))⟩,
 ⟨some 6, none, .p (.fa 131 1 (.t 5))⟩,
 ⟨none, none, .h (.store 1 (.t 6) (.t 3))⟩])⟩
theorem c52 : compF Tryz.prog true Tryz.f52 = some a52 := by kernel_rfl
def a53 : AF := ⟨33, [.tmp 2],
 (.seq (.ops [⟨some 2, none, .p (.mv (.k (.s (.int .i64 0))))⟩])
 (.seq (.ops [⟨some 6, none, .p (.mv (.t 0))⟩,
 ⟨some 7, none, .h (.mksl 1 1 (.one (.s (.str ⟨#[]⟩))) [(0, (.k (.s (.str ⟨#[48, 49, 50, 51, 52, 53, 54, 55, 56, 57]⟩))))])⟩,
 ⟨some 8, none, .h (.call (.k (.fn 47 [])) [(.t 6), (.t 7)])⟩,
 ⟨some 9, none, .p (.bin .sub (.t 8) (.k (.s (.int .u8 48))))⟩,
 ⟨some 10, none, .p (.conv .i64 (.t 9))⟩,
 ⟨some 3, none, .p (.mv (.t 10))⟩])
 (.seq (.seq (.ops [⟨some 4, none, .p (.mv (.k (.s (.int .i64 0))))⟩])
 (.block 0 (.loop (.seq (.seq (.ops [⟨some 11, none, .p (.mv (.t 4))⟩,
 ⟨some 12, none, .p (.bin .lss (.t 11) (.k (.s (.int .i64 5))))⟩,
 ⟨some 13, none, .p (.mv (.t 12))⟩,
 ⟨some 14, some (13, true), .p (.mv (.t 3))⟩,
 ⟨some 15, some (13, true), .p (.bin .gtr (.t 14) (.k (.s (.int .i64 0))))⟩,
 ⟨some 16, none, .p (.pick (.t 13) (.t 15) (.k (.s (.bool false))))⟩])
 (.cond (.t 16)
 .skip
 (.exit 0)))
 (.seq (.block 1 (.seq (.ops [⟨some 19, none, .p (.mv (.t 0))⟩,
 ⟨some 20, none, .p (.nilck (.t 19))⟩,
 ⟨some 21, none, .p (.fa 0 2 (.t 20))⟩,
 ⟨some 22, none, .h (.mksl 1 1 (.one (.s (.str ⟨#[]⟩))) [(0, (.k (.s (.str ⟨#[48, 49, 50, 51, 52, 53, 54, 55, 56, 57]⟩))))])⟩,
 ⟨some 23, none, .h (.call (.k (.fn 72 [])) [(.t 21), (.t 22)])⟩,
 ⟨some 5, none, .p (.mv (.t 23))⟩])
 (.seq (.seq (.ops [⟨some 24, none, .p (.mv (.t 5))⟩,
 ⟨some 25, none, .p (.bin .eql (.t 24) (.k (.s (.int .u8 0))))⟩])
 (.cond (.t 25)
 (.exit 0)
 .skip))
 (.ops [⟨some 26, none, .p (.mv (.t 3))⟩,
 ⟨some 27, none, .p (.bin .mul (.k (.s (.int .i64 10))) (.t 26))⟩,
 ⟨some 28, none, .p (.mv (.t 5))⟩,
 ⟨some 29, none, .p (.bin .sub (.t 28) (.k (.s (.int .u8 48))))⟩,
 ⟨some 30, none, .p (.conv .i64 (.t 29))⟩,
 ⟨some 31, none, .p (.bin .add (.t 27) (.t 30))⟩,
 ⟨some 3, none, .p (.mv (.t 31))⟩]))))
 (.ops [⟨some 17, none, .p (.mv (.t 4))⟩,
 ⟨some 18, none, .p (.bin .add (.t 17) (.k (.s (.int .i64 1))))⟩,
 ⟨some 4, none, .p (.mv (.t 18))⟩]))))))
 (.seq (.ops [⟨some 32, none, .p (.mv (.t 3))⟩,
 ⟨some 2, none, .p (.mv (.t 32))⟩])
 .ret))))⟩
theorem c53 : compF Tryz.prog false Tryz.f53 = some a53 := by kernel_rfl
def a54 : AF := ⟨7, [],
 (.parc [[0, 1, 2, 3, 4, 5, 6], [1, 0, 2, 3, 4, 5, 6], [1, 2, 0, 3, 4, 5, 6]] [⟨some 1, none, .h (.load false 1 (.t 0))⟩,
 ⟨some 2, none, .h (.load false 1 (.t 0))⟩,
 ⟨some 3, none, .h (.call (.k (.fn 53 [])) [(.t 2)])⟩,
 ⟨some 4, none, .p (.nilck (.t 1))⟩,
 ⟨some 5, none, .p (.fa 2 133 (.t 4))⟩,
 ⟨some 6, none, .p (.fa 132 1 (.t 5))⟩,
 ⟨none, none, .h (.store 1 (.t 6) (.t 3))⟩])⟩
theorem c54 : compF Tryz.prog true Tryz.f54 = some a54 := by kernel_rfl
def a55 : AF := ⟨28, [.tmp 2],
 (.seq (.ops [⟨some 2, none, .p (.mv (.k (.s (.int .u8 0))))⟩])
 (.seq (.seq (.par [⟨some 3, none, .p (.mv (.t 0))⟩,
 ⟨some 4, none, .p (.nilck (.t 3))⟩,
 ⟨some 5, none, .p (.fa 2 1 (.t 4))⟩,
 ⟨some 6, none, .h (.load false 1 (.t 5))⟩,
 ⟨some 7, none, .p (.mv (.t 6))⟩,
 ⟨some 8, some (7, false), .p (.mv (.t 0))⟩,
 ⟨some 9, some (7, false), .p (.nilck (.t 8))⟩,
 ⟨some 10, some (7, false), .p (.fa 1 1 (.t 9))⟩,
 ⟨some 11, some (7, false), .h (.load false 1 (.t 10))⟩,
 ⟨some 12, some (7, false), .p (.mv (.t 0))⟩,
 ⟨some 13, some (7, false), .p (.nilck (.t 12))⟩,
 ⟨some 14, some (7, false), .p (.fa 0 1 (.t 13))⟩,
 ⟨some 15, some (7, false), .h (.load false 1 (.t 14))⟩,
 ⟨some 16, some (7, false), .p (.lenS (.t 15))⟩,
 ⟨some 17, some (7, false), .p (.bin .geq (.t 11) (.t 16))⟩,
 ⟨some 18, none, .p (.pick (.t 7) (.k (.s (.bool true))) (.t 17))⟩])
 (.cond (.t 18)
 (.seq (.ops [⟨some 2, none, .p (.mv (.k (.s (.int .u8 0))))⟩])
 .ret)
 .skip))
 (.seq (.par [⟨some 19, none, .p (.mv (.t 0))⟩,
 ⟨some 20, none, .p (.nilck (.t 19))⟩,
 ⟨some 21, none, .p (.fa 0 1 (.t 20))⟩,
 ⟨some 22, none, .h (.load false 1 (.t 21))⟩,
 ⟨some 23, none, .p (.mv (.t 0))⟩,
 ⟨some 24, none, .p (.nilck (.t 23))⟩,
 ⟨some 25, none, .p (.fa 1 1 (.t 24))⟩,
 ⟨some 26, none, .h (.load false 1 (.t 25))⟩,
 ⟨some 27, none, .p (.ixstr (.t 22) (.t 26))⟩,
 ⟨some 2, none, .p (.mv (.t 27))⟩])
 .ret)))⟩
theorem c55 : compF Tryz.prog false Tryz.f55 = some a55 := by kernel_rfl
def a56 : AF := ⟨63, [.tmp 2],
 (.seq (.ops [⟨some 1, none, .h (.box (.t 0))⟩,
 ⟨some 2, none, .p (.mv (.k (.s (.bool false))))⟩])
 (.seq (.ops [⟨some 6, none, .p (.build (.ints 2) [])⟩,
 ⟨some 3, none, .h (.alloc (.ints 2))⟩,
 ⟨none, none, .h (.store 2 (.t 3) (.t 6))⟩])
 (.seq (.seq (.ops [⟨some 4, none, .p (.mv (.k (.s (.int .i64 0))))⟩])
 (.block 0 (.loop (.seq (.seq (.ops [⟨some 7, none, .p (.mv (.t 4))⟩,
 ⟨some 8, none, .p (.bin .lss (.t 7) (.k (.s (.int .i64 64))))⟩])
 (.cond (.t 8)
 .skip
 (.exit 0)))
 (.seq (.block 1 (.seq (.ops [⟨some 11, none, .p (.mv (.t 4))⟩,
 ⟨some 12, none, .p (.fa 0 128 (.t 1))⟩,
 ⟨some 13, none, .p (.ixa 64 2 (.t 12) (.t 11))⟩,
 ⟨some 14, none, .h (.load true 2 (.t 13))⟩,
 ⟨some 5, none, .h (.alloc (.ints 2))⟩,
 ⟨none, none, .h (.store 2 (.t 5) (.t 14))⟩])
 (.seq (.seq (.ops [⟨some 15, none, .h (.load true 2 (.t 5))⟩,
 ⟨some 16, none, .h (.call (.k (.fn 74 [])) [(.t 15)])⟩,
 ⟨some 17, none, .p (.un .not (.t 16))⟩,
 ⟨some 18, none, .p (.mv (.t 17))⟩,
 ⟨some 19, some (18, true), .h (.load true 2 (.t 5))⟩,
 ⟨some 20, some (18, true), .h (.call (.k (.fn 75 [])) [(.t 19)])⟩,
 ⟨some 21, some (18, true), .p (.un .not (.t 20))⟩,
 ⟨some 22, none, .p (.pick (.t 18) (.t 21) (.k (.s (.bool false))))⟩,
 ⟨some 23, none, .p (.mv (.t 22))⟩,
 ⟨some 24, some (23, false), .p (.fa 0 1 (.t 5))⟩,
 ⟨some 25, some (23, false), .h (.load false 1 (.t 24))⟩,
 ⟨some 26, some (23, false), .p (.bin .eql (.t 25) (.k (.s (.int .i64 1))))⟩,
 ⟨some 27, some (23, false), .p (.mv (.t 26))⟩,
 ⟨some 28, some (27, true), .p (.mv (.t 4))⟩,
 ⟨some 29, some (27, true), .p (.bin .lss (.t 28) (.k (.s (.int .i64 8))))⟩,
 ⟨some 30, some (27, true), .p (.mv (.t 29))⟩,
 ⟨some 31, some (30, false), .p (.mv (.t 4))⟩,
 ⟨some 32, some (30, false), .p (.bin .geq (.t 31) (.k (.s (.int .i64 56))))⟩,
 ⟨some 33, some (27, true), .p (.pick (.t 30) (.k (.s (.bool true))) (.t 32))⟩,
 ⟨some 34, some (23, false), .p (.pick (.t 27) (.t 33) (.k (.s (.bool false))))⟩,
 ⟨some 35, none, .p (.pick (.t 23) (.k (.s (.bool true))) (.t 34))⟩])
 (.cond (.t 35)
 (.seq (.ops [⟨some 2, none, .p (.mv (.k (.s (.bool false))))⟩])
 .ret)
 .skip))
 (.seq (.ops [⟨some 36, none, .p (.fa 0 1 (.t 5))⟩,
 ⟨some 37, none, .h (.load false 1 (.t 36))⟩,
 ⟨some 38, none, .p (.bin .eql (.t 37) (.k (.s (.int .i64 6))))⟩])
 (.cond (.t 38)
 (.ops [⟨some 39, none, .p (.fa 1 1 (.t 5))⟩,
 ⟨some 40, none, .h (.load false 1 (.t 39))⟩,
 ⟨some 41, none, .p (.ixa 2 1 (.t 3) (.t 40))⟩,
 ⟨some 42, none, .h (.load false 1 (.t 41))⟩,
 ⟨some 43, none, .p (.bin .add (.t 42) (.k (.s (.int .i64 1))))⟩,
 ⟨some 44, none, .p (.ixa 2 1 (.t 3) (.t 40))⟩,
 ⟨none, none, .h (.store 1 (.t 44) (.t 43))⟩])
 .skip)))))
 (.ops [⟨some 9, none, .p (.mv (.t 4))⟩,
 ⟨some 10, none, .p (.bin .add (.t 9) (.k (.s (.int .i64 1))))⟩,
 ⟨some 4, none, .p (.mv (.t 10))⟩]))))))
 (.seq (.ops [⟨some 45, none, .p (.ixa 2 1 (.t 3) (.k (.s (.int .i64 0))))⟩,
 ⟨some 46, none, .h (.load false 1 (.t 45))⟩,
 ⟨some 47, none, .p (.bin .eql (.t 46) (.k (.s (.int .i64 1))))⟩,
 ⟨some 48, none, .p (.mv (.t 47))⟩,
 ⟨some 49, some (48, true), .p (.ixa 2 1 (.t 3) (.k (.s (.int .i64 1))))⟩,
 ⟨some 50, some (48, true), .h (.load false 1 (.t 49))⟩,
 ⟨some 51, some (48, true), .p (.bin .eql (.t 50) (.k (.s (.int .i64 1))))⟩,
 ⟨some 52, none, .p (.pick (.t 48) (.t 51) (.k (.s (.bool false))))⟩,
 ⟨some 53, none, .p (.mv (.t 52))⟩,
 ⟨some 54, some (53, true), .p (.fa 128 1 (.t 1))⟩,
 ⟨some 55, some (53, true), .h (.load false 1 (.t 54))⟩,
 ⟨some 56, some (53, true), .p (.bin .eql (.t 55) (.k (.s (.int .i64 0))))⟩,
 ⟨some 57, some (53, true), .p (.mv (.t 56))⟩,
 ⟨some 58, some (57, false), .p (.fa 128 1 (.t 1))⟩,
 ⟨some 59, some (57, false), .h (.load false 1 (.t 58))⟩,
 ⟨some 60, some (57, false), .p (.bin .eql (.t 59) (.k (.s (.int .i64 1))))⟩,
 ⟨some 61, some (53, true), .p (.pick (.t 57) (.k (.s (.bool true))) (.t 60))⟩,
 ⟨some 62, none, .p (.pick (.t 53) (.t 61) (.k (.s (.bool false))))⟩,
 ⟨some 2, none, .p (.mv (.t 62))⟩])
 .ret))))⟩
theorem c56 : compF Tryz.prog false Tryz.f56 = some a56 := by kernel_rfl
def a57 : AF := ⟨48, [.tmp 2],
 (.seq (.ops [⟨some 1, none, .h (.box (.t 0))⟩,
 ⟨some 2, none, .p (.mv (.k (.s (.bool false))))⟩])
 (.seq (.ops [⟨some 4, none, .p (.fa 129 1 (.t 1))⟩,
 ⟨some 5, none, .h (.load false 1 (.t 4))⟩,
 ⟨some 3, none, .p (.mv (.t 5))⟩])
 (.seq (.seq (.ops [⟨some 6, none, .p (.mv (.t 3))⟩,
 ⟨some 7, none, .p (.bin .lss (.t 6) (.k (.s (.int .i64 0))))⟩,
 ⟨some 8, none, .p (.mv (.t 7))⟩,
 ⟨some 9, some (8, false), .p (.mv (.t 3))⟩,
 ⟨some 10, some (8, false), .p (.bin .gtr (.t 9) (.k (.s (.int .i64 15))))⟩,
 ⟨some 11, none, .p (.pick (.t 8) (.k (.s (.bool true))) (.t 10))⟩])
 (.cond (.t 11)
 (.seq (.ops [⟨some 2, none, .p (.mv (.k (.s (.bool false))))⟩])
 .ret)
 .skip))
 (.seq (.ops [⟨some 12, none, .p (.mv (.t 3))⟩,
 ⟨some 13, none, .p (.bin .rem (.t 12) (.k (.s (.int .i64 2))))⟩,
 ⟨some 14, none, .p (.bin .eql (.t 13) (.k (.s (.int .i64 0))))⟩,
 ⟨some 15, none, .p (.mv (.t 14))⟩,
 ⟨some 16, some (15, false), .h (.load true 133 (.t 1))⟩,
 ⟨some 17, some (15, false), .h (.call (.k (.fn 76 [])) [(.t 16), (.k (.s (.int .i64 0))), (.k (.s (.int .i64 4))), (.k (.s (.int .i64 7)))])⟩,
 ⟨some 18, none, .p (.pick (.t 15) (.k (.s (.bool true))) (.t 17))⟩,
 ⟨some 19, none, .p (.mv (.t 18))⟩,
 ⟨some 20, some (19, true), .p (.mv (.t 3))⟩,
 ⟨some 21, some (19, true), .p (.bin .quo (.t 20) (.k (.s (.int .i64 2))))⟩,
 ⟨some 22, some (19, true), .p (.bin .rem (.t 21) (.k (.s (.int .i64 2))))⟩,
 ⟨some 23, some (19, true), .p (.bin .eql (.t 22) (.k (.s (.int .i64 0))))⟩,
 ⟨some 24, some (19, true), .p (.mv (.t 23))⟩,
 ⟨some 25, some (24, false), .h (.load true 133 (.t 1))⟩,
 ⟨some 26, some (24, false), .h (.call (.k (.fn 76 [])) [(.t 25), (.k (.s (.int .i64 0))), (.k (.s (.int .i64 4))), (.k (.s (.int .i64 0)))])⟩,
 ⟨some 27, some (19, true), .p (.pick (.t 24) (.k (.s (.bool true))) (.t 26))⟩,
 ⟨some 28, none, .p (.pick (.t 19) (.t 27) (.k (.s (.bool false))))⟩,
 ⟨some 29, none, .p (.mv (.t 28))⟩,
 ⟨some 30, some (29, true), .p (.mv (.t 3))⟩,
 ⟨some 31, some (29, true), .p (.bin .quo (.t 30) (.k (.s (.int .i64 4))))⟩,
 ⟨some 32, some (29, true), .p (.bin .rem (.t 31) (.k (.s (.int .i64 2))))⟩,
 ⟨some 33, some (29, true), .p (.bin .eql (.t 32) (.k (.s (.int .i64 0))))⟩,
 ⟨some 34, some (29, true), .p (.mv (.t 33))⟩,
 ⟨some 35, some (34, false), .h (.load true 133 (.t 1))⟩,
 ⟨some 36, some (34, false), .h (.call (.k (.fn 76 [])) [(.t 35), (.k (.s (.int .i64 1))), (.k (.s (.int .i64 60))), (.k (.s (.int .i64 63)))])⟩,
 ⟨some 37, some (29, true), .p (.pick (.t 34) (.k (.s (.bool true))) (.t 36))⟩,
 ⟨some 38, none, .p (.pick (.t 29) (.t 37) (.k (.s (.bool false))))⟩,
 ⟨some 39, none, .p (.mv (.t 38))⟩,
 ⟨some 40, some (39, true), .p (.mv (.t 3))⟩,
 ⟨some 41, some (39, true), .p (.bin .quo (.t 40) (.k (.s (.int .i64 8))))⟩,
 ⟨some 42, some (39, true), .p (.bin .eql (.t 41) (.k (.s (.int .i64 0))))⟩,
 ⟨some 43, some (39, true), .p (.mv (.t 42))⟩,
 ⟨some 44, some (43, false), .h (.load true 133 (.t 1))⟩,
 ⟨some 45, some (43, false), .h (.call (.k (.fn 76 [])) [(.t 44), (.k (.s (.int .i64 1))), (.k (.s (.int .i64 60))), (.k (.s (.int .i64 56)))])⟩,
 ⟨some 46, some (39, true), .p (.pick (.t 43) (.k (.s (.bool true))) (.t 45))⟩,
 ⟨some 47, none, .p (.pick (.t 39) (.t 46) (.k (.s (.bool false))))⟩,
 ⟨some 2, none, .p (.mv (.t 47))⟩])
 .ret))))⟩
theorem c57 : compF Tryz.prog false Tryz.f57 = some a57 := by kernel_rfl
def a58 : AF := ⟨61, [.tmp 2],
 (.seq (.ops [⟨some 1, none, .h (.box (.t 0))⟩,
 ⟨some 2, none, .p (.mv (.k (.s (.bool false))))⟩])
 (.seq (.seq (.ops [⟨some 6, none, .p (.fa 130 1 (.t 1))⟩,
 ⟨some 7, none, .h (.load false 1 (.t 6))⟩,
 ⟨some 8, none, .p (.bin .eql (.t 7) (.k (.s (.int .i64 (-1)))))⟩])
 (.cond (.t 8)
 (.seq (.ops [⟨some 2, none, .p (.mv (.k (.s (.bool true))))⟩])
 .ret)
 .skip))
 (.seq (.seq (.ops [⟨some 9, none, .p (.fa 130 1 (.t 1))⟩,
 ⟨some 10, none, .h (.load false 1 (.t 9))⟩,
 ⟨some 11, none, .p (.bin .lss (.t 10) (.k (.s (.int .i64 0))))⟩,
 ⟨some 12, none, .p (.mv (.t 11))⟩,
 ⟨some 13, some (12, false), .p (.fa 130 1 (.t 1))⟩,
 ⟨some 14, some (12, false), .h (.load false 1 (.t 13))⟩,
 ⟨some 15, some (12, false), .p (.bin .gtr (.t 14) (.k (.s (.int .i64 63))))⟩,
 ⟨some 16, none, .p (.pick (.t 12) (.k (.s (.bool true))) (.t 15))⟩,
 ⟨some 17, none, .p (.mv (.t 16))⟩,
 ⟨some 18, some (17, false), .p (.fa 131 1 (.t 1))⟩,
 ⟨some 19, some (17, false), .h (.load false 1 (.t 18))⟩,
 ⟨some 20, some (17, false), .p (.bin .neq (.t 19) (.k (.s (.int .i64 0))))⟩,
 ⟨some 21, none, .p (.pick (.t 17) (.k (.s (.bool true))) (.t 20))⟩])
 (.cond (.t 21)
 (.seq (.ops [⟨some 2, none, .p (.mv (.k (.s (.bool false))))⟩])
 .ret)
 .skip))
 (.seq (.ops [⟨some 22, none, .p (.build (.ints 2) [(0, 1, (.k (.s (.int .i64 1)))), (1, 1, (.k (.s (.int .i64 1))))])⟩,
 ⟨some 5, none, .h (.alloc (.ints 2))⟩,
 ⟨some 3, none, .p (.mv (.k (.s (.int .i64 5))))⟩,
 ⟨some 4, none, .p (.mv (.k (.s (.int .i64 8))))⟩,
 ⟨none, none, .h (.store 2 (.t 5) (.t 22))⟩])
 (.seq (.seq (.ops [⟨some 23, none, .p (.fa 128 1 (.t 1))⟩,
 ⟨some 24, none, .h (.load false 1 (.t 23))⟩,
 ⟨some 25, none, .p (.bin .eql (.t 24) (.k (.s (.int .i64 1))))⟩])
 (.cond (.t 25)
 (.ops [⟨some 26, none, .p (.build (.ints 2) [(0, 1, (.k (.s (.int .i64 1)))), (1, 1, (.k (.s (.int .i64 0))))])⟩,
 ⟨some 3, none, .p (.mv (.k (.s (.int .i64 2))))⟩,
 ⟨some 4, none, .p (.mv (.k (.s (.int .i64 (-8)))))⟩,
 ⟨none, none, .h (.store 2 (.t 5) (.t 26))⟩])
 .skip))
 (.seq (.par [⟨some 27, none, .p (.fa 130 1 (.t 1))⟩,
 ⟨some 28, none, .h (.load false 1 (.t 27))⟩,
 ⟨some 29, none, .p (.bin .quo (.t 28) (.k (.s (.int .i64 8))))⟩,
 ⟨some 30, none, .p (.mv (.t 3))⟩,
 ⟨some 31, none, .p (.bin .eql (.t 29) (.t 30))⟩,
 ⟨some 32, none, .p (.mv (.t 31))⟩,
 ⟨some 33, some (32, true), .p (.fa 130 1 (.t 1))⟩,
 ⟨some 34, some (32, true), .h (.load false 1 (.t 33))⟩,
 ⟨some 35, some (32, true), .p (.fa 0 128 (.t 1))⟩,
 ⟨some 36, some (32, true), .p (.ixa 64 2 (.t 35) (.t 34))⟩,
 ⟨some 37, some (32, true), .h (.load true 2 (.t 36))⟩,
 ⟨some 38, some (32, true), .h (.call (.k (.fn 74 [])) [(.t 37)])⟩,
 ⟨some 39, none, .p (.pick (.t 32) (.t 38) (.k (.s (.bool false))))⟩,
 ⟨some 40, none, .p (.mv (.t 39))⟩,
 ⟨some 41, some (40, true), .p (.fa 130 1 (.t 1))⟩,
 ⟨some 42, some (40, true), .h (.load false 1 (.t 41))⟩,
 ⟨some 43, some (40, true), .p (.mv (.t 4))⟩,
 ⟨some 44, some (40, true), .p (.bin .add (.t 42) (.t 43))⟩,
 ⟨some 45, some (40, true), .p (.fa 0 128 (.t 1))⟩,
 ⟨some 46, some (40, true), .p (.ixa 64 2 (.t 45) (.t 44))⟩,
 ⟨some 47, some (40, true), .h (.load true 2 (.t 46))⟩,
 ⟨some 48, some (40, true), .h (.call (.k (.fn 74 [])) [(.t 47)])⟩,
 ⟨some 49, none, .p (.pick (.t 40) (.t 48) (.k (.s (.bool false))))⟩,
 ⟨some 50, none, .p (.mv (.t 49))⟩,
 ⟨some 51, some (50, true), .p (.fa 130 1 (.t 1))⟩,
 ⟨some 52, some (50, true), .h (.load false 1 (.t 51))⟩,
 ⟨some 53, some (50, true), .p (.mv (.t 4))⟩,
 ⟨some 54, some (50, true), .p (.bin .sub (.t 52) (.t 53))⟩,
 ⟨some 55, some (50, true), .p (.fa 0 128 (.t 1))⟩,
 ⟨some 56, some (50, true), .p (.ixa 64 2 (.t 55) (.t 54))⟩,
 ⟨some 57, some (50, true), .h (.load true 2 (.t 56))⟩,
 ⟨some 58, some (50, true), .h (.load true 2 (.t 5))⟩,
 ⟨some 59, some (50, true), .p (.eqa false 2 (.t 57) (.t 58))⟩,
 ⟨some 60, none, .p (.pick (.t 50) (.t 59) (.k (.s (.bool false))))⟩,
 ⟨some 2, none, .p (.mv (.t 60))⟩])
 .ret))))))⟩
theorem c58 : compF Tryz.prog false Tryz.f58 = some a58 := by kernel_rfl
def a60 : AF := ⟨9, [.tmp 2],
 (.seq (.ops [⟨some 2, none, .p (.mv (.k (.s (.bool false))))⟩])
 (.seq (.ops [⟨some 3, none, .p (.mv (.t 0))⟩,
 ⟨some 4, none, .p (.bin .geq (.t 3) (.k (.s (.int .i64 0))))⟩,
 ⟨some 5, none, .p (.mv (.t 4))⟩,
 ⟨some 6, some (5, true), .p (.mv (.t 0))⟩,
 ⟨some 7, some (5, true), .p (.bin .leq (.t 6) (.k (.s (.int .i64 63))))⟩,
 ⟨some 8, none, .p (.pick (.t 5) (.t 7) (.k (.s (.bool false))))⟩,
 ⟨some 2, none, .p (.mv (.t 8))⟩])
 .ret))⟩
theorem c60 : compF Tryz.prog false Tryz.f60 = some a60 := by kernel_rfl
def a61 : AF := ⟨7, [.tmp 2],
 (.seq (.ops [⟨some 2, none, .p (.mv (.k (.s (.int .i64 0))))⟩])
 (.seq (.ops [⟨some 3, none, .p (.mv (.t 0))⟩,
 ⟨some 4, none, .h (.call (.k (.fn 43 [])) [(.t 3)])⟩,
 ⟨some 5, none, .p (.fld true 0 2 (.t 4))⟩,
 ⟨some 6, none, .p (.fld false 1 1 (.t 5))⟩,
 ⟨some 2, none, .p (.mv (.t 6))⟩])
 .ret))⟩
theorem c61 : compF Tryz.prog false Tryz.f61 = some a61 := by kernel_rfl
def a62 : AF := ⟨21, [.tmp 2],
 (.seq (.ops [⟨some 1, none, .h (.box (.t 0))⟩,
 ⟨some 2, none, .p (.mv (.k (.s (.bool false))))⟩])
 (.seq (.ops [⟨some 3, none, .p (.fa 0 1 (.t 1))⟩,
 ⟨some 4, none, .h (.load false 1 (.t 3))⟩,
 ⟨some 5, none, .p (.bin .geq (.t 4) (.k (.s (.int .i64 1))))⟩,
 ⟨some 6, none, .p (.mv (.t 5))⟩,
 ⟨some 7, some (6, true), .p (.fa 0 1 (.t 1))⟩,
 ⟨some 8, some (6, true), .h (.load false 1 (.t 7))⟩,
 ⟨some 9, some (6, true), .p (.bin .leq (.t 8) (.k (.s (.int .i64 6))))⟩,
 ⟨some 10, none, .p (.pick (.t 6) (.t 9) (.k (.s (.bool false))))⟩,
 ⟨some 11, none, .p (.mv (.t 10))⟩,
 ⟨some 12, some (11, true), .p (.fa 1 1 (.t 1))⟩,
 ⟨some 13, some (11, true), .h (.load false 1 (.t 12))⟩,
 ⟨some 14, some (11, true), .p (.bin .eql (.t 13) (.k (.s (.int .i64 0))))⟩,
 ⟨some 15, some (11, true), .p (.mv (.t 14))⟩,
 ⟨some 16, some (15, false), .p (.fa 1 1 (.t 1))⟩,
 ⟨some 17, some (15, false), .h (.load false 1 (.t 16))⟩,
 ⟨some 18, some (15, false), .p (.bin .eql (.t 17) (.k (.s (.int .i64 1))))⟩,
 ⟨some 19, some (11, true), .p (.pick (.t 15) (.k (.s (.bool true))) (.t 18))⟩,
 ⟨some 20, none, .p (.pick (.t 11) (.t 19) (.k (.s (.bool false))))⟩,
 ⟨some 2, none, .p (.mv (.t 20))⟩])
 .ret))⟩
theorem c62 : compF Tryz.prog false Tryz.f62 = some a62 := by kernel_rfl
def a63 : AF := ⟨18, [.tmp 8],
 (.seq (.ops [⟨some 4, none, .h (.box (.t 0))⟩,
 ⟨some 8, none, .p (.mv (.k (.s (.bool false))))⟩])
 (.seq (.ops [⟨some 9, none, .p (.mv (.t 3))⟩,
 ⟨some 10, none, .p (.fa 0 133 (.t 4))⟩,
 ⟨some 11, none, .p (.fa 0 128 (.t 10))⟩,
 ⟨some 12, none, .p (.ixa 64 2 (.t 11) (.t 9))⟩,
 ⟨some 13, none, .h (.load true 2 (.t 12))⟩,
 ⟨some 14, none, .p (.mv (.t 1))⟩,
 ⟨some 15, none, .p (.mv (.t 2))⟩,
 ⟨some 16, none, .p (.build (.ints 2) [(0, 1, (.t 14)), (1, 1, (.t 15))])⟩,
 ⟨some 17, none, .p (.eqa false 2 (.t 13) (.t 16))⟩,
 ⟨some 8, none, .p (.mv (.t 17))⟩])
 .ret))⟩
theorem c63 : compF Tryz.prog false Tryz.f63 = some a63 := by kernel_rfl
def a64 : AF := ⟨11, [.tmp 3],
 (.seq (.ops [⟨some 3, none, .p (.mv (.k (.s (.bool false))))⟩])
 (.seq (.ops [⟨some 4, none, .p (.mv (.t 0))⟩,
 ⟨some 5, none, .p (.fa 0 133 (.t 1))⟩,
 ⟨some 6, none, .p (.fa 0 128 (.t 5))⟩,
 ⟨some 7, none, .p (.ixa 64 2 (.t 6) (.t 4))⟩,
 ⟨some 8, none, .h (.load true 2 (.t 7))⟩,
 ⟨some 9, none, .p (.build (.ints 2) [])⟩,
 ⟨some 10, none, .p (.eqa false 2 (.t 8) (.t 9))⟩,
 ⟨some 3, none, .p (.mv (.t 10))⟩])
 .ret))⟩
theorem c64 : compF Tryz.prog false Tryz.f64 = some a64 := by kernel_rfl
def a65 : AF := ⟨13, [.tmp 6],
 (.seq (.ops [⟨some 6, none, .p (.mv (.k (.s (.int .i64 0))))⟩])
 (.seq (.ops [⟨some 7, none, .p (.mv (.t 0))⟩,
 ⟨some 8, none, .h (.call (.k (.fn 43 [])) [(.t 7)])⟩,
 ⟨some 9, none, .p (.mv (.t 1))⟩,
 ⟨some 10, none, .p (.mv (.t 2))⟩,
 ⟨some 11, none, .h (.call (.k (.fn 80 [])) [(.t 8), (.t 9), (.t 10)])⟩,
 ⟨some 12, none, .h (.call (.k (.fn 67 [])) [(.t 11)])⟩,
 ⟨some 6, none, .p (.mv (.t 12))⟩])
 .ret))⟩
theorem c65 : compF Tryz.prog false Tryz.f65 = some a65 := by kernel_rfl
def a66 : AF := ⟨5, [.tmp 2],
 (.seq (.ops [⟨some 2, none, .p (.mv (.k (.s (.int .i64 0))))⟩])
 (.seq (.seq (.ops [⟨some 3, none, .p (.mv (.t 0))⟩,
 ⟨some 4, none, .p (.bin .eql (.t 3) (.k (.s (.int .i64 0))))⟩])
 (.cond (.t 4)
 (.seq (.ops [⟨some 2, none, .p (.mv (.k (.s (.int .i64 1))))⟩])
 .ret)
 .skip))
 (.seq (.ops [⟨some 2, none, .p (.mv (.k (.s (.int .i64 0))))⟩])
 .ret)))⟩
theorem c66 : compF Tryz.prog false Tryz.f66 = some a66 := by kernel_rfl
def a67 : AF := ⟨12, [.tmp 2],
 (.seq (.ops [⟨some 1, none, .h (.box (.t 0))⟩,
 ⟨some 2, none, .p (.mv (.k (.s (.int .i64 0))))⟩])
 (.seq (.seq (.ops [⟨some 3, none, .h (.load true 2 (.t 1))⟩,
 ⟨some 4, none, .h (.call (.k (.fn 81 [])) [(.t 3)])⟩,
 ⟨some 5, none, .p (.un .not (.t 4))⟩])
 (.cond (.t 5)
 (.seq (.ops [⟨some 2, none, .p (.mv (.k (.s (.int .i64 (-1)))))⟩])
 .ret)
 .skip))
 (.seq (.ops [⟨some 6, none, .p (.fa 1 1 (.t 1))⟩,
 ⟨some 7, none, .h (.load false 1 (.t 6))⟩,
 ⟨some 8, none, .p (.bin .mul (.t 7) (.k (.s (.int .i64 8))))⟩,
 ⟨some 9, none, .p (.fa 0 1 (.t 1))⟩,
 ⟨some 10, none, .h (.load false 1 (.t 9))⟩,
 ⟨some 11, none, .p (.bin .add (.t 8) (.t 10))⟩,
 ⟨some 2, none, .p (.mv (.t 11))⟩])
 .ret)))⟩
theorem c67 : compF Tryz.prog false Tryz.f67 = some a67 := by kernel_rfl
def a72 : AF := ⟨52, [.tmp 4],
 (.seq (.ops [⟨some 4, none, .p (.mv (.k (.s (.int .u8 0))))⟩])
 (.seq (.seq (.par [⟨some 5, none, .p (.mv (.t 0))⟩,
 ⟨some 6, none, .p (.nilck (.t 5))⟩,
 ⟨some 7, none, .p (.fa 1 1 (.t 6))⟩,
 ⟨some 8, none, .h (.load false 1 (.t 7))⟩,
 ⟨some 9, none, .p (.mv (.t 0))⟩,
 ⟨some 10, none, .p (.nilck (.t 9))⟩,
 ⟨some 11, none, .p (.fa 0 1 (.t 10))⟩,
 ⟨some 12, none, .h (.load false 1 (.t 11))⟩,
 ⟨some 13, none, .p (.lenS (.t 12))⟩,
 ⟨some 14, none, .p (.bin .eql (.t 8) (.t 13))⟩,
 ⟨some 15, none, .p (.mv (.t 14))⟩,
 ⟨some 16, some (15, false), .p (.mv (.t 1))⟩,
 ⟨some 17, some (15, false), .h (.callq (.k (.fn 20 [])) [(.t 16), (.k (.s (.str ⟨#[]⟩)))])⟩,
 ⟨some 18, some (15, false), .p (.mv (.t 0))⟩,
 ⟨some 19, some (15, false), .p (.nilck (.t 18))⟩,
 ⟨some 20, some (15, false), .p (.fa 0 1 (.t 19))⟩,
 ⟨some 21, some (15, false), .h (.load false 1 (.t 20))⟩,
 ⟨some 22, some (15, false), .p (.mv (.t 0))⟩,
 ⟨some 23, some (15, false), .p (.nilck (.t 22))⟩,
 ⟨some 24, some (15, false), .p (.fa 1 1 (.t 23))⟩,
 ⟨some 25, some (15, false), .h (.load false 1 (.t 24))⟩,
 ⟨some 26, some (15, false), .p (.mv (.t 0))⟩,
 ⟨some 27, some (15, false), .p (.nilck (.t 26))⟩,
 ⟨some 28, some (15, false), .p (.fa 1 1 (.t 27))⟩,
 ⟨some 29, some (15, false), .h (.load false 1 (.t 28))⟩,
 ⟨some 30, some (15, false), .p (.bin .add (.t 29) (.k (.s (.int .i64 1))))⟩,
 ⟨some 31, some (15, false), .p (.slS (.t 21) (some (.t 25)) (some (.t 30)))⟩,
 ⟨some 32, some (15, false), .h (.call (.k (.fn 91 [])) [(.t 17), (.t 31)])⟩,
 ⟨some 33, some (15, false), .p (.un .not (.t 32))⟩,
 ⟨some 34, none, .p (.pick (.t 15) (.k (.s (.bool true))) (.t 33))⟩])
 (.cond (.t 34)
 (.seq (.ops [⟨some 4, none, .p (.mv (.k (.s (.int .u8 0))))⟩])
 .ret)
 .skip))
 (.seq (.ops [⟨some 35, none, .p (.mv (.t 0))⟩,
 ⟨some 36, none, .p (.nilck (.t 35))⟩,
 ⟨some 37, none, .p (.fa 1 1 (.t 36))⟩,
 ⟨some 38, none, .h (.load false 1 (.t 37))⟩,
 ⟨some 39, none, .p (.bin .add (.t 38) (.k (.s (.int .i64 1))))⟩,
 ⟨some 40, none, .p (.nilck (.t 35))⟩,
 ⟨some 41, none, .p (.fa 1 1 (.t 40))⟩,
 ⟨none, none, .h (.store 1 (.t 41) (.t 39))⟩])
 (.seq (.par [⟨some 42, none, .p (.mv (.t 0))⟩,
 ⟨some 43, none, .p (.nilck (.t 42))⟩,
 ⟨some 44, none, .p (.fa 0 1 (.t 43))⟩,
 ⟨some 45, none, .h (.load false 1 (.t 44))⟩,
 ⟨some 46, none, .p (.mv (.t 0))⟩,
 ⟨some 47, none, .p (.nilck (.t 46))⟩,
 ⟨some 48, none, .p (.fa 1 1 (.t 47))⟩,
 ⟨some 49, none, .h (.load false 1 (.t 48))⟩,
 ⟨some 50, none, .p (.bin .sub (.t 49) (.k (.s (.int .i64 1))))⟩,
 ⟨some 51, none, .p (.ixstr (.t 45) (.t 50))⟩,
 ⟨some 4, none, .p (.mv (.t 51))⟩])
 .ret))))⟩
theorem c72 : compF Tryz.prog false Tryz.f72 = some a72 := by kernel_rfl
def a74 : AF := ⟨6, [.tmp 2],
 (.seq (.ops [⟨some 1, none, .h (.box (.t 0))⟩,
 ⟨some 2, none, .p (.mv (.k (.s (.bool false))))⟩])
 (.seq (.ops [⟨some 3, none, .h (.load true 2 (.t 1))⟩,
 ⟨some 4, none, .p (.build (.ints 2) [])⟩,
 ⟨some 5, none, .p (.eqa false 2 (.t 3) (.t 4))⟩,
 ⟨some 2, none, .p (.mv (.t 5))⟩])
 .ret))⟩
theorem c74 : compF Tryz.prog false Tryz.f74 = some a74 := by kernel_rfl
def a75 : AF := ⟨21, [.tmp 2],
 (.seq (.ops [⟨some 1, none, .h (.box (.t 0))⟩,
 ⟨some 2, none, .p (.mv (.k (.s (.bool false))))⟩])
 (.seq (.ops [⟨some 3, none, .p (.fa 0 1 (.t 1))⟩,
 ⟨some 4, none, .h (.load false 1 (.t 3))⟩,
 ⟨some 5, none, .p (.bin .geq (.t 4) (.k (.s (.int .i64 1))))⟩,
 ⟨some 6, none, .p (.mv (.t 5))⟩,
 ⟨some 7, some (6, true), .p (.fa 0 1 (.t 1))⟩,
 ⟨some 8, some (6, true), .h (.load false 1 (.t 7))⟩,
 ⟨some 9, some (6, true), .p (.bin .leq (.t 8) (.k (.s (.int .i64 6))))⟩,
 ⟨some 10, none, .p (.pick (.t 6) (.t 9) (.k (.s (.bool false))))⟩,
 ⟨some 11, none, .p (.mv (.t 10))⟩,
 ⟨some 12, some (11, true), .p (.fa 1 1 (.t 1))⟩,
 ⟨some 13, some (11, true), .h (.load false 1 (.t 12))⟩,
 ⟨some 14, some (11, true), .p (.bin .eql (.t 13) (.k (.s (.int .i64 0))))⟩,
 ⟨some 15, some (11, true), .p (.mv (.t 14))⟩,
 ⟨some 16, some (15, false), .p (.fa 1 1 (.t 1))⟩,
 ⟨some 17, some (15, false), .h (.load false 1 (.t 16))⟩,
 ⟨some 18, some (15, false), .p (.bin .eql (.t 17) (.k (.s (.int .i64 1))))⟩,
 ⟨some 19, some (11, true), .p (.pick (.t 15) (.k (.s (.bool true))) (.t 18))⟩,
 ⟨some 20, none, .p (.pick (.t 11) (.t 19) (.k (.s (.bool false))))⟩,
 ⟨some 2, none, .p (.mv (.t 20))⟩])
 .ret))⟩
theorem c75 : compF Tryz.prog false Tryz.f75 = some a75 := by kernel_rfl
def a76 : AF := ⟨25, [.tmp 8],
 (.seq (.ops [⟨some 4, none, .h (.box (.t 0))⟩,
 ⟨some 8, none, .p (.mv (.k (.s (.bool false))))⟩])
 (.seq (.ops [⟨some 9, none, .p (.mv (.t 2))⟩,
 ⟨some 10, none, .p (.fa 0 128 (.t 4))⟩,
 ⟨some 11, none, .p (.ixa 64 2 (.t 10) (.t 9))⟩,
 ⟨some 12, none, .h (.load true 2 (.t 11))⟩,
 ⟨some 13, none, .p (.mv (.t 1))⟩,
 ⟨some 14, none, .p (.build (.ints 2) [(0, 1, (.k (.s (.int .i64 6)))), (1, 1, (.t 13))])⟩,
 ⟨some 15, none, .p (.eqa false 2 (.t 12) (.t 14))⟩,
 ⟨some 16, none, .p (.mv (.t 15))⟩,
 ⟨some 17, some (16, true), .p (.mv (.t 3))⟩,
 ⟨some 18, some (16, true), .p (.fa 0 128 (.t 4))⟩,
 ⟨some 19, some (16, true), .p (.ixa 64 2 (.t 18) (.t 17))⟩,
 ⟨some 20, some (16, true), .h (.load true 2 (.t 19))⟩,
 ⟨some 21, some (16, true), .p (.mv (.t 1))⟩,
 ⟨some 22, some (16, true), .p (.build (.ints 2) [(0, 1, (.k (.s (.int .i64 4)))), (1, 1, (.t 21))])⟩,
 ⟨some 23, some (16, true), .p (.eqa false 2 (.t 20) (.t 22))⟩,
 ⟨some 24, none, .p (.pick (.t 16) (.t 23) (.k (.s (.bool false))))⟩,
 ⟨some 8, none, .p (.mv (.t 24))⟩])
 .ret))⟩
theorem c76 : compF Tryz.prog false Tryz.f76 = some a76 := by kernel_rfl
end Go.Proofs.YtlaogmemhephnaaGreatDoor
namespace Go.Proofs.YtlaogmemhephnaaGreatDoor
open Go Go.Am
set_option maxRecDepth 100000
def a80 : AF := ⟨34, [.cell 6 true 2],
 (.seq (.ops [⟨some 3, none, .h (.box (.t 0))⟩,
 ⟨some 6, none, .h (.alloc (.ints 2))⟩])
 (.seq (.seq (.ops [⟨some 7, none, .p (.fa 2 1 (.t 3))⟩,
 ⟨some 8, none, .h (.load false 1 (.t 7))⟩,
 ⟨some 9, none, .p (.un .not (.t 8))⟩,
 ⟨some 10, none, .p (.mv (.t 9))⟩,
 ⟨some 11, some (10, false), .p (.mv (.t 1))⟩,
 ⟨some 12, some (10, false), .p (.mv (.t 2))⟩,
 ⟨some 13, some (10, false), .p (.mx [(.t 11), (.t 12)])⟩,
 ⟨some 14, some (10, false), .p (.bin .geq (.t 13) (.k (.s (.int .i64 8))))⟩,
 ⟨some 15, none, .p (.pick (.t 10) (.k (.s (.bool true))) (.t 14))⟩,
 ⟨some 16, none, .p (.mv (.t 15))⟩,
 ⟨some 17, some (16, false), .p (.mv (.t 1))⟩,
 ⟨some 18, some (16, false), .p (.mv (.t 2))⟩,
 ⟨some 19, some (16, false), .p (.mn [(.t 17), (.t 18)])⟩,
 ⟨some 20, some (16, false), .p (.bin .leq (.t 19) (.k (.s (.int .i64 (-8)))))⟩,
 ⟨some 21, none, .p (.pick (.t 16) (.k (.s (.bool true))) (.t 20))⟩])
 (.cond (.t 21)
 (.seq (.ops [⟨some 22, none, .p (.build (.ints 2) [(0, 1, (.k (.s (.int .i64 (-1))))), (1, 1, (.k (.s (.int .i64 (-1)))))])⟩,
 ⟨none, none, .h (.store 2 (.t 6) (.t 22))⟩])
 .ret)
 .skip))
 (.seq (.ops [⟨some 23, none, .p (.fa 0 2 (.t 3))⟩,
 ⟨some 24, none, .p (.fa 0 1 (.t 23))⟩,
 ⟨some 25, none, .h (.load false 1 (.t 24))⟩,
 ⟨some 26, none, .p (.mv (.t 1))⟩,
 ⟨some 27, none, .p (.bin .add (.t 25) (.t 26))⟩,
 ⟨some 28, none, .p (.fa 0 2 (.t 3))⟩,
 ⟨some 29, none, .p (.fa 1 1 (.t 28))⟩,
 ⟨some 30, none, .h (.load false 1 (.t 29))⟩,
 ⟨some 31, none, .p (.mv (.t 2))⟩,
 ⟨some 32, none, .p (.bin .add (.t 30) (.t 31))⟩,
 ⟨some 33, none, .p (.build (.ints 2) [(0, 1, (.t 27)), (1, 1, (.t 32))])⟩,
 ⟨none, none, .h (.store 2 (.t 6) (.t 33))⟩])
 .ret)))⟩
theorem c80 : compF Tryz.prog false Tryz.f80 = some a80 := by kernel_rfl
def a81 : AF := ⟨13, [.tmp 2],
 (.seq (.ops [⟨some 1, none, .h (.box (.t 0))⟩,
 ⟨some 2, none, .p (.mv (.k (.s (.bool false))))⟩])
 (.seq (.ops [⟨some 3, none, .p (.fa 0 1 (.t 1))⟩,
 ⟨some 4, none, .h (.load false 1 (.t 3))⟩,
 ⟨some 5, none, .p (.conv .u64 (.t 4))⟩,
 ⟨some 6, none, .p (.bin .lss (.t 5) (.k (.s (.int .u64 8))))⟩,
 ⟨some 7, none, .p (.mv (.t 6))⟩,
 ⟨some 8, some (7, true), .p (.fa 1 1 (.t 1))⟩,
 ⟨some 9, some (7, true), .h (.load false 1 (.t 8))⟩,
 ⟨some 10, some (7, true), .p (.conv .u64 (.t 9))⟩,
 ⟨some 11, some (7, true), .p (.bin .lss (.t 10) (.k (.s (.int .u64 8))))⟩,
 ⟨some 12, none, .p (.pick (.t 7) (.t 11) (.k (.s (.bool false))))⟩,
 ⟨some 2, none, .p (.mv (.t 12))⟩])
 .ret))⟩
theorem c81 : compF Tryz.prog false Tryz.f81 = some a81 := by kernel_rfl
end Go.Proofs.YtlaogmemhephnaaGreatDoor
namespace Go.Am
open Go
def idxPrim : List V → Heap → Option (V × Heap)
 | [.s (.str s), .s (.int .u8 c)], σ => some (.s (.int .i64 (Lib.indexByte s.data.toList c.toNat.toUInt8)), σ)
 | _, _ => none
def itoaPrim : List V → Heap → Option (V × Heap)
 | [.s (.int .i64 n)], σ => if -9223372036854775808 ≤ n ∧ n ≤ 9223372036854775807 then some (.s (.str ⟨(Lib.itoa n).toArray⟩), σ) else none
 | _, _ => none
def hasPrim : List V → Heap → Option (V × Heap)
 | [.s (.str s), .s (.str t)], σ => if t.size = 1 then some (.s (.bool (decide (0 ≤ Lib.indexByte s.data.toList (t.data.getD 0 0)))), σ) else none
 | _, _ => none
def lowPrim : List V → Heap → Option (V × Heap)
 | [.s (.str s)], σ => if s.size = 1 ∧ 65 ≤ (s.data.getD 0 0).toNat ∧ (s.data.getD 0 0).toNat ≤ 90 then some (.s (.str ⟨#[s.data.getD 0 0 + 32]⟩), σ) else none
 | _, _ => none
def copyPrim (T : TypeId) : List V → Heap → Option (V × Heap)
 | [.ptr b 0 2], σ => match σ[b]? with
  | some (.vs (.ty t) [.pnil, x]) => if t = T then some (.tup [], σ.set b (.vs (.ty t) [.ptr b 0 2, x])) else none
  | some (.vs (.ty t) [.ptr c 0 2, _]) => if t = T ∧ c = b then some (.tup [], σ) else none
  | _ => none
 | _, _ => none
def growPrim (T el : TypeId) : List V → Heap → Option (V × Heap)
 | [.ptr b 0 2, .s (.int .i64 n)], σ => match σ[b]? with
  | some (.vs (.ty t) [.ptr c 0 2, .snil]) => if t = T ∧ c = b ∧ 0 ≤ n ∧ n ≤ 281474976710656 then some (.tup [], σ.set b (.vs (.ty t) [.ptr b 0 2, .sl σ.length 0 0 1 .whole]) ++ [.sc (.gty el) 0 (strS .empty)]) else none
  | _ => none
 | _, _ => none
def okByte : S → Bool
 | .int .u8 n => decide (0 ≤ n ∧ n < 256)
 | _ => false
def bytesOf (f : Nat → S) (m : Nat) : List UInt8 := (List.range m).map fun i => UInt8.ofNat (byteOf (f i))
def strPrim (T el : TypeId) : List V → Heap → Option (V × Heap)
 | [.ptr b 0 2], σ => match σ[b]? with
  | some (.vs (.ty t) [_, .sl g 0 m 1 .whole]) => (match σ[g]? with
   | some (.sc (.gty e) _ f) => if t = T ∧ e = el ∧ m ≠ 0 ∧ m ≤ 140737488355328 ∧ (List.range m).all (fun i => okByte (f i)) = true then some (.s (.str ⟨(bytesOf f m).toArray⟩), σ.set g .dead) else none
   | _ => none)
  | _ => none
 | _, _ => none
def primF (f : FuncId) : Option (List V → Heap → Option (V × Heap)) :=
 bif Nat.beq f 49 then some idxPrim else bif Nat.beq f 23 then some itoaPrim else bif Nat.beq f 91 then some hasPrim else bif Nat.beq f 69 then some lowPrim else
 bif Nat.beq f 68 then some (copyPrim 69) else bif Nat.beq f 70 then some (growPrim 69 5) else bif Nat.beq f 41 then some (strPrim 69 5) else none
end Go.Am
namespace Go.Proofs.YtlaogmemhephnaaGreatDoor
open Go Go.Am
set_option maxRecDepth 100000
def fnsL : List (FuncId × AF) := [(3, a3), (4, a4), (5, a5), (6, a6), (7, a7), (8, a8), (9, a9), (10, a10), (12, a12), (13, a13), (14, a14), (15, a15), (16, a16), (17, a17), (18, a18), (19, a19), (20, a20), (21, a21), (22, a22), (25, a25), (26, a26), (27, a27), (28, a28), (29, a29), (30, a30), (31, a31), (33, a33), (34, a34), (35, a35), (36, a36), (37, a37), (38, a38), (39, a39), (40, a40), (42, a42), (43, a43), (45, a45), (46, a46), (47, a47), (48, a48), (50, a50), (51, a51), (52, a52), (53, a53), (54, a54), (55, a55), (56, a56), (57, a57), (58, a58), (60, a60), (61, a61), (62, a62), (63, a63), (64, a64), (65, a65), (66, a66), (67, a67), (72, a72), (74, a74), (75, a75), (76, a76), (80, a80), (81, a81)]
theorem goodL : GoodL Tryz.prog fnsL := ⟨⟨_, _, Tryz.func3, c3⟩, ⟨_, _, Tryz.func4, c4⟩, ⟨_, _, Tryz.func5, c5⟩, ⟨_, _, Tryz.func6, c6⟩, ⟨_, _, Tryz.func7, c7⟩, ⟨_, _, Tryz.func8, c8⟩, ⟨_, _, Tryz.func9, c9⟩, ⟨_, _, Tryz.func10, c10⟩, ⟨_, _, Tryz.func12, c12⟩, ⟨_, _, Tryz.func13, c13⟩, ⟨_, _, Tryz.func14, c14⟩, ⟨_, _, Tryz.func15, c15⟩, ⟨_, _, Tryz.func16, c16⟩, ⟨_, _, Tryz.func17, c17⟩, ⟨_, _, Tryz.func18, c18⟩, ⟨_, _, Tryz.func19, c19⟩, ⟨_, _, Tryz.func20, c20⟩, ⟨_, _, Tryz.func21, c21⟩, ⟨_, _, Tryz.func22, c22⟩, ⟨_, _, Tryz.func25, c25⟩, ⟨_, _, Tryz.func26, c26⟩, ⟨_, _, Tryz.func27, c27⟩, ⟨_, _, Tryz.func28, c28⟩, ⟨_, _, Tryz.func29, c29⟩, ⟨_, _, Tryz.func30, c30⟩, ⟨_, _, Tryz.func31, c31⟩, ⟨_, _, Tryz.func33, c33⟩, ⟨_, _, Tryz.func34, c34⟩, ⟨_, _, Tryz.func35, c35⟩, ⟨_, _, Tryz.func36, c36⟩, ⟨_, _, Tryz.func37, c37⟩, ⟨_, _, Tryz.func38, c38⟩, ⟨_, _, Tryz.func39, c39⟩, ⟨_, _, Tryz.func40, c40⟩, ⟨_, _, Tryz.func42, c42⟩, ⟨_, _, Tryz.func43, c43⟩, ⟨_, _, Tryz.func45, c45⟩, ⟨_, _, Tryz.func46, c46⟩, ⟨_, _, Tryz.func47, c47⟩, ⟨_, _, Tryz.func48, c48⟩, ⟨_, _, Tryz.func50, c50⟩, ⟨_, _, Tryz.func51, c51⟩, ⟨_, _, Tryz.func52, c52⟩, ⟨_, _, Tryz.func53, c53⟩, ⟨_, _, Tryz.func54, c54⟩, ⟨_, _, Tryz.func55, c55⟩, ⟨_, _, Tryz.func56, c56⟩, ⟨_, _, Tryz.func57, c57⟩, ⟨_, _, Tryz.func58, c58⟩, ⟨_, _, Tryz.func60, c60⟩, ⟨_, _, Tryz.func61, c61⟩, ⟨_, _, Tryz.func62, c62⟩, ⟨_, _, Tryz.func63, c63⟩, ⟨_, _, Tryz.func64, c64⟩, ⟨_, _, Tryz.func65, c65⟩, ⟨_, _, Tryz.func66, c66⟩, ⟨_, _, Tryz.func67, c67⟩, ⟨_, _, Tryz.func72, c72⟩, ⟨_, _, Tryz.func74, c74⟩, ⟨_, _, Tryz.func75, c75⟩, ⟨_, _, Tryz.func76, c76⟩, ⟨_, _, Tryz.func80, c80⟩, ⟨_, _, Tryz.func81, c81⟩, trivial⟩
def AM : AP := { fns := fun f => lookF f fnsL, prims := primF }
theorem fnsOK : FnsOK Tryz.prog AM := fun _ _ h => goodL_look goodL h
end Go.Proofs.YtlaogmemhephnaaGreatDoor
namespace Go.Proofs
open Go.Shelf
def Tryz.lays169_ren : Go.Shelf.Ren := ⟨fun | 169 => 41 | n => n, fun | 70 => 66 | 9 => 9 | 0 => 0 | 72 => 69 | 37 => 67 | 127 => 98 | 3 => 3 | 5 => 5 | n => n, fun | n => n⟩
theorem Tryz.lays169 : Go.Proofs.Lays.n169 Tryz.prog Tryz.lays169_ren := {
 mixed := by kernel_rfl
 f169 := Tryz.func41.trans (congrArg some (by kernel_rfl))
 t0 := Tryz.underlying0
 a0 := Tryz.isAgg0
 z0 := Tryz.sizeOf0
 v0 := Tryz.zeroValue0
 t3 := Tryz.underlying3
 a3 := Tryz.isAgg3
 z3 := Tryz.sizeOf3
 v3 := Tryz.zeroValue3
 t9 := Tryz.underlying9
 a9 := Tryz.isAgg9
 z9 := Tryz.sizeOf9
 v9 := Tryz.zeroValue9
 t37 := Tryz.underlying67
 a37 := Tryz.isAgg67
 z37 := Tryz.sizeOf67
 v37 := Tryz.zeroValue67
 t70 := Tryz.underlying66
 a70 := Tryz.isAgg66
 z70 := Tryz.sizeOf66
 v70 := Tryz.zeroValue66
 t72 := Tryz.underlying69
 a72 := Tryz.isAgg69
 z72 := Tryz.sizeOf69
 v72 := Tryz.zeroValue69
 t127 := Tryz.underlying98
 a127 := Tryz.isAgg98
 z127 := Tryz.sizeOf98
 v127 := Tryz.zeroValue98 }
theorem Tryz.Builder_Extra_169 : Builder.Extra Tryz.prog Tryz.lays169_ren := {
 sizeBuilder := by kernel_rfl
 liesBuilder := by kernel_rfl
 t5 := Tryz.underlying5
 a5 := Tryz.isAgg5
 z5 := Tryz.sizeOf5
 v5 := Tryz.zeroValue5
 infoByte := by kernel_rfl
 cellsByte := by kernel_rfl
 sizeByte := by kernel_rfl
 neB5 := by decide }
open Go.RowKit in
theorem Tryz.Builder_String_any (B b : Nat) (l : List UInt8) (w : World) (h : Lib.IsBuilder 69 5 B b (Lib.byteCells l) w) (hBw : B ≤ w.heap.size) :
 Calls Tryz.prog 41 #[.pointer (some ⟨b, 0, none⟩)] w fun e w' => e = .returned (.string ⟨l.toArray⟩) ∧ Below B w w' := Any.Builder_String_any Tryz.lays169 Tryz.Builder_Extra_169 B b l w h hBw
def Tryz.lays241_ren : Go.Shelf.Ren := ⟨fun | 241 => 70 | 277 => 86 | n => n, fun | 70 => 66 | 3 => 3 | 0 => 0 | 72 => 69 | 37 => 67 | 5 => 5 | n => n, fun | n => n⟩
def Tryz.lays165_ren : Go.Shelf.Ren := ⟨fun | 165 => 42 | 240 => 68 | 241 => 70 | 276 => 82 | 277 => 86 | n => n, fun | 70 => 66 | 3 => 3 | 0 => 0 | 4 => 4 | 9 => 9 | 20 => 20 | 72 => 69 | 37 => 67 | 164 => 105 | 5 => 5 | n => n, fun | n => n⟩
theorem Tryz.lays165 : Go.Proofs.Lays.n165 Tryz.prog Tryz.lays165_ren := {
 mixed := by kernel_rfl
 f165 := Tryz.func42.trans (congrArg some (by kernel_rfl))
 f240 := Tryz.func68.trans (congrArg some (by kernel_rfl))
 f241 := Tryz.func70.trans (congrArg some (by kernel_rfl))
 f276 := Tryz.func82.trans (congrArg some (by kernel_rfl))
 f277 := Tryz.func86.trans (congrArg some (by kernel_rfl))
 t0 := Tryz.underlying0
 a0 := Tryz.isAgg0
 z0 := Tryz.sizeOf0
 v0 := Tryz.zeroValue0
 t3 := Tryz.underlying3
 a3 := Tryz.isAgg3
 z3 := Tryz.sizeOf3
 v3 := Tryz.zeroValue3
 t4 := Tryz.underlying4
 a4 := Tryz.isAgg4
 z4 := Tryz.sizeOf4
 v4 := Tryz.zeroValue4
 t9 := Tryz.underlying9
 a9 := Tryz.isAgg9
 z9 := Tryz.sizeOf9
 v9 := Tryz.zeroValue9
 t20 := Tryz.underlying20
 a20 := Tryz.isAgg20
 z20 := Tryz.sizeOf20
 v20 := Tryz.zeroValue20
 t37 := Tryz.underlying67
 a37 := Tryz.isAgg67
 z37 := Tryz.sizeOf67
 v37 := Tryz.zeroValue67
 t70 := Tryz.underlying66
 a70 := Tryz.isAgg66
 z70 := Tryz.sizeOf66
 v70 := Tryz.zeroValue66
 t72 := Tryz.underlying69
 a72 := Tryz.isAgg69
 z72 := Tryz.sizeOf69
 v72 := Tryz.zeroValue69
 t164 := Tryz.underlying105
 a164 := Tryz.isAgg105
 z164 := Tryz.sizeOf105
 v164 := Tryz.zeroValue105 }
theorem Tryz.Builder_Extra_165 : Builder.Extra Tryz.prog Tryz.lays165_ren := {
 sizeBuilder := by kernel_rfl
 liesBuilder := by kernel_rfl
 t5 := Tryz.underlying5
 a5 := Tryz.isAgg5
 z5 := Tryz.sizeOf5
 v5 := Tryz.zeroValue5
 infoByte := by kernel_rfl
 cellsByte := by kernel_rfl
 sizeByte := by kernel_rfl
 neB5 := by decide }
open Go.RowKit in
theorem Tryz.Builder_Grow_fresh (B b n : Nat) (w : World) (hB : B ≤ b) (hbk : w.heap[b]? = some (.cells #[.pointer none, .slice none 0 0] 69 (0, 0))) (hBw : B ≤ w.heap.size) (hn : n ≤ 281474976710656) :
 Calls Tryz.prog 42 #[.pointer (some ⟨b, 0, none⟩), .int .i64 n] w fun e w' => e = .returned (.tuple #[]) ∧ (Lib.BuilderAt 69 5 B b (.pointer (some ⟨b, 0, none⟩)) [] w' ∧ Below B w w') := Any.Builder_Grow_fresh Tryz.lays165 Tryz.Builder_Extra_165 B b n w hB hbk hBw hn
def Tryz.lays137_ren : Go.Shelf.Ren := ⟨fun | 137 => 49 | 217 => 73 | 266 => 92 | n => n, fun | 9 => 9 | 5 => 5 | 3 => 3 | n => n, fun | n => n⟩
theorem Tryz.lays137 : Go.Proofs.Lays.n137 Tryz.prog Tryz.lays137_ren := {
 mixed := by kernel_rfl
 f137 := Tryz.func49.trans (congrArg some (by kernel_rfl))
 f217 := Tryz.func73.trans (congrArg some (by kernel_rfl))
 f266 := Tryz.func92.trans (congrArg some (by kernel_rfl))
 t3 := Tryz.underlying3
 a3 := Tryz.isAgg3
 z3 := Tryz.sizeOf3
 v3 := Tryz.zeroValue3
 t5 := Tryz.underlying5
 a5 := Tryz.isAgg5
 z5 := Tryz.sizeOf5
 v5 := Tryz.zeroValue5
 t9 := Tryz.underlying9
 a9 := Tryz.isAgg9
 z9 := Tryz.sizeOf9
 v9 := Tryz.zeroValue9 }
open Go.RowKit in
theorem Tryz.strings_IndexByte (s : ByteArray) (c : Int) (w : World) :
 Calls Tryz.prog 49 #[.string s, .int .u8 c] w fun e w' => e = .returned (.int .i64 (Lib.indexByte s.data.toList c.toNat.toUInt8)) ∧ w' = w := Any.strings_IndexByte Tryz.lays137 s c w
def Tryz.laysM171_ren : Go.Shelf.Ren := ⟨fun | 171 => 23 | 243 => 44 | 246 => 71 | 283 => 87 | 284 => 88 | 285 => 89 | 286 => 90 | 129 => 102 | 317 => 101 | 318 => 103 | 319 => 104 | 320 => 105 | 337 => 112 | 338 => 113 | n => n, fun | 3 => 3 | 9 => 9 | 2 => 2 | 4 => 4 | 171 => 111 | 0 => 0 | 53 => 112 | 37 => 67 | 5 => 5 | 173 => 115 | 212 => 126 | 51 => 127 | 20 => 20 | 213 => 128 | 46 => 121 | 232 => 144 | 233 => 145 | n => n, fun | 17 => 1 | 18 => 5 | 19 => 6 | n => n⟩
theorem Tryz.laysM171 : Go.Proofs.LaysM.n171 Tryz.prog Tryz.laysM171_ren := {
 mixed := by kernel_rfl
 f129 := Tryz.func102.trans (congrArg some (by kernel_rfl))
 f171 := Tryz.func23.trans (congrArg some (by kernel_rfl))
 f243 := Tryz.func44.trans (congrArg some (by kernel_rfl))
 f246 := Tryz.func71.trans (congrArg some (by kernel_rfl))
 f283 := Tryz.func87.trans (congrArg some (by kernel_rfl))
 f284 := Tryz.func88.trans (congrArg some (by kernel_rfl))
 f285 := Tryz.func89.trans (congrArg some (by kernel_rfl))
 f286 := Tryz.func90.trans (congrArg some (by kernel_rfl))
 f317 := Tryz.func101.trans (congrArg some (by kernel_rfl))
 f318 := Tryz.func103.trans (congrArg some (by kernel_rfl))
 f319 := Tryz.func104.trans (congrArg some (by kernel_rfl))
 f320 := Tryz.func105.trans (congrArg some (by kernel_rfl))
 f337 := Tryz.func112.trans (congrArg some (by kernel_rfl))
 f338 := Tryz.func113.trans (congrArg some (by kernel_rfl))
 t0 := Tryz.underlying0
 a0 := Tryz.isAgg0
 z0 := Tryz.sizeOf0
 v0 := Tryz.zeroValue0
 t2 := Tryz.underlying2
 a2 := Tryz.isAgg2
 z2 := Tryz.sizeOf2
 v2 := Tryz.zeroValue2
 t3 := Tryz.underlying3
 a3 := Tryz.isAgg3
 z3 := Tryz.sizeOf3
 v3 := Tryz.zeroValue3
 t4 := Tryz.underlying4
 a4 := Tryz.isAgg4
 z4 := Tryz.sizeOf4
 v4 := Tryz.zeroValue4
 t5 := Tryz.underlying5
 a5 := Tryz.isAgg5
 z5 := Tryz.sizeOf5
 v5 := Tryz.zeroValue5
 t9 := Tryz.underlying9
 a9 := Tryz.isAgg9
 z9 := Tryz.sizeOf9
 v9 := Tryz.zeroValue9
 t20 := Tryz.underlying20
 a20 := Tryz.isAgg20
 z20 := Tryz.sizeOf20
 v20 := Tryz.zeroValue20
 t37 := Tryz.underlying67
 a37 := Tryz.isAgg67
 z37 := Tryz.sizeOf67
 v37 := Tryz.zeroValue67
 t46 := Tryz.underlying121
 a46 := Tryz.isAgg121
 z46 := Tryz.sizeOf121
 v46 := Tryz.zeroValue121
 t51 := Tryz.underlying127
 a51 := Tryz.isAgg127
 z51 := Tryz.sizeOf127
 v51 := Tryz.zeroValue127
 t53 := Tryz.underlying112
 a53 := Tryz.isAgg112
 z53 := Tryz.sizeOf112
 v53 := Tryz.zeroValue112
 t171 := Tryz.underlying111
 a171 := Tryz.isAgg111
 z171 := Tryz.sizeOf111
 v171 := Tryz.zeroValue111
 t173 := Tryz.underlying115
 a173 := Tryz.isAgg115
 z173 := Tryz.sizeOf115
 v173 := Tryz.zeroValue115
 t212 := Tryz.underlying126
 a212 := Tryz.isAgg126
 z212 := Tryz.sizeOf126
 v212 := Tryz.zeroValue126
 t213 := Tryz.underlying128
 a213 := Tryz.isAgg128
 z213 := Tryz.sizeOf128
 t232 := Tryz.underlying144
 a232 := Tryz.isAgg144
 z232 := Tryz.sizeOf144
 v232 := Tryz.zeroValue144
 t233 := Tryz.underlying145
 a233 := Tryz.isAgg145
 z233 := Tryz.sizeOf145
 v233 := Tryz.zeroValue145
 g17 := by kernel_rfl
 g18 := by kernel_rfl
 g19 := by kernel_rfl
 i0 := by kernel_rfl
 i2 := by kernel_rfl
 i3 := by kernel_rfl
 i4 := by kernel_rfl
 i5 := by kernel_rfl
 i9 := by kernel_rfl
 i20 := by kernel_rfl
 i37 := by kernel_rfl
 i46 := by kernel_rfl
 i51 := by kernel_rfl
 i53 := by kernel_rfl
 i171 := by kernel_rfl
 i173 := by kernel_rfl
 i212 := by kernel_rfl
 i232 := by kernel_rfl
 i233 := by kernel_rfl
 m17 := by kernel_rfl
 m18 := by kernel_rfl
 m19 := by kernel_rfl }
open Go.RowKit Go.Sort Go.Lib in
theorem Tryz.strconv_Itoa (n : Int) (h0 : -9223372036854775808 ≤ n) (h1 : n ≤ 9223372036854775807) (w : World) (htab : Lib.TabIs Tryz.prog w "internal/strconv.uint64pow10" .u64 Lib.pow10Tab) :
 Calls Tryz.prog 23 #[.int .i64 n] w fun e w' => e = .returned (.string ⟨(Lib.itoa n).toArray⟩) ∧ ∃ k os, w' = grow (w.drewN k) os := Any.strconv_Itoa Tryz.laysM171 n h0 h1 w htab
def Tryz.lays144_ren : Go.Shelf.Ren := ⟨fun | 144 => 91 | 143 => 79 | 219 => 96 | 217 => 73 | 225 => 107 | 224 => 108 | 267 => 109 | 266 => 92 | 314 => 114 | n => n, fun | 9 => 9 | 4 => 4 | 3 => 3 | 5 => 5 | 46 => 121 | 146 => 139 | 51 => 127 | n => n, fun | 1 => 0 | n => n⟩
theorem Tryz.lays144 : Go.Proofs.Lays.n144 Tryz.prog Tryz.lays144_ren := {
 mixed := by kernel_rfl
 f143 := Tryz.func79.trans (congrArg some (by kernel_rfl))
 f144 := Tryz.func91.trans (congrArg some (by kernel_rfl))
 f217 := Tryz.func73.trans (congrArg some (by kernel_rfl))
 f219 := Tryz.func96.trans (congrArg some (by kernel_rfl))
 f224 := Tryz.func108.trans (congrArg some (by kernel_rfl))
 f225 := Tryz.func107.trans (congrArg some (by kernel_rfl))
 f266 := Tryz.func92.trans (congrArg some (by kernel_rfl))
 f267 := Tryz.func109.trans (congrArg some (by kernel_rfl))
 f314 := Tryz.func114.trans (congrArg some (by kernel_rfl))
 t3 := Tryz.underlying3
 a3 := Tryz.isAgg3
 z3 := Tryz.sizeOf3
 v3 := Tryz.zeroValue3
 t4 := Tryz.underlying4
 a4 := Tryz.isAgg4
 z4 := Tryz.sizeOf4
 v4 := Tryz.zeroValue4
 t5 := Tryz.underlying5
 a5 := Tryz.isAgg5
 z5 := Tryz.sizeOf5
 v5 := Tryz.zeroValue5
 t9 := Tryz.underlying9
 a9 := Tryz.isAgg9
 z9 := Tryz.sizeOf9
 v9 := Tryz.zeroValue9
 t46 := Tryz.underlying121
 a46 := Tryz.isAgg121
 z46 := Tryz.sizeOf121
 v46 := Tryz.zeroValue121
 t51 := Tryz.underlying127
 a51 := Tryz.isAgg127
 z51 := Tryz.sizeOf127
 v51 := Tryz.zeroValue127
 t146 := Tryz.underlying139
 a146 := Tryz.isAgg139
 z146 := Tryz.sizeOf139
 v146 := Tryz.zeroValue139
 g1 := by kernel_rfl }
open Go.RowKit Go.Lib in
theorem Tryz.strings_Contains_one (s : ByteArray) (c : UInt8) (w : World) :
 Calls Tryz.prog 91 #[.string s, .string ⟨#[c]⟩] w fun e w' => e = .returned (.bool (decide (0 ≤ Lib.indexByte s.data.toList c))) ∧ w' = w := Any.strings_Contains_one Tryz.lays144 s c w
def Tryz.laysM146_ren : Go.Shelf.Ren := ⟨fun | 146 => 32 | 221 => 59 | 268 => 77 | 138 => 78 | 143 => 79 | 195 => 93 | 197 => 94 | 218 => 95 | 219 => 96 | 260 => 106 | 217 => 73 | 225 => 107 | 224 => 108 | 267 => 109 | 266 => 92 | 314 => 114 | n => n, fun | 9 => 9 | 31 => 25 | 3 => 3 | 4 => 4 | 0 => 0 | 105 => 119 | 21 => 21 | 5 => 5 | 46 => 121 | 119 => 135 | 139 => 138 | 138 => 137 | 146 => 139 | 51 => 127 | n => n, fun | 1 => 0 | 3 => 3 | 4 => 4 | n => n⟩
theorem Tryz.laysM146 : Go.Proofs.LaysM.n146 Tryz.prog Tryz.laysM146_ren := {
 mixed := by kernel_rfl
 f138 := Tryz.func78.trans (congrArg some (by kernel_rfl))
 f143 := Tryz.func79.trans (congrArg some (by kernel_rfl))
 f146 := Tryz.func32.trans (congrArg some (by kernel_rfl))
 f195 := Tryz.func93.trans (congrArg some (by kernel_rfl))
 f197 := Tryz.func94.trans (congrArg some (by kernel_rfl))
 f217 := Tryz.func73.trans (congrArg some (by kernel_rfl))
 f218 := Tryz.func95.trans (congrArg some (by kernel_rfl))
 f219 := Tryz.func96.trans (congrArg some (by kernel_rfl))
 f221 := Tryz.func59.trans (congrArg some (by kernel_rfl))
 f224 := Tryz.func108.trans (congrArg some (by kernel_rfl))
 f225 := Tryz.func107.trans (congrArg some (by kernel_rfl))
 f260 := Tryz.func106.trans (congrArg some (by kernel_rfl))
 f266 := Tryz.func92.trans (congrArg some (by kernel_rfl))
 f267 := Tryz.func109.trans (congrArg some (by kernel_rfl))
 f268 := Tryz.func77.trans (congrArg some (by kernel_rfl))
 f314 := Tryz.func114.trans (congrArg some (by kernel_rfl))
 t0 := Tryz.underlying0
 a0 := Tryz.isAgg0
 z0 := Tryz.sizeOf0
 v0 := Tryz.zeroValue0
 t3 := Tryz.underlying3
 a3 := Tryz.isAgg3
 z3 := Tryz.sizeOf3
 v3 := Tryz.zeroValue3
 t4 := Tryz.underlying4
 a4 := Tryz.isAgg4
 z4 := Tryz.sizeOf4
 v4 := Tryz.zeroValue4
 t5 := Tryz.underlying5
 a5 := Tryz.isAgg5
 z5 := Tryz.sizeOf5
 v5 := Tryz.zeroValue5
 t9 := Tryz.underlying9
 a9 := Tryz.isAgg9
 z9 := Tryz.sizeOf9
 v9 := Tryz.zeroValue9
 t21 := Tryz.underlying21
 a21 := Tryz.isAgg21
 z21 := Tryz.sizeOf21
 v21 := Tryz.zeroValue21
 t31 := Tryz.underlying25
 a31 := Tryz.isAgg25
 z31 := Tryz.sizeOf25
 v31 := Tryz.zeroValue25
 t46 := Tryz.underlying121
 a46 := Tryz.isAgg121
 z46 := Tryz.sizeOf121
 v46 := Tryz.zeroValue121
 t51 := Tryz.underlying127
 a51 := Tryz.isAgg127
 z51 := Tryz.sizeOf127
 v51 := Tryz.zeroValue127
 t105 := Tryz.underlying119
 a105 := Tryz.isAgg119
 z105 := Tryz.sizeOf119
 v105 := Tryz.zeroValue119
 t119 := Tryz.underlying135
 a119 := Tryz.isAgg135
 z119 := Tryz.sizeOf135
 t138 := Tryz.underlying137
 a138 := Tryz.isAgg137
 z138 := Tryz.sizeOf137
 v138 := Tryz.zeroValue137
 t139 := Tryz.underlying138
 a139 := Tryz.isAgg138
 z139 := Tryz.sizeOf138
 v139 := Tryz.zeroValue138
 t146 := Tryz.underlying139
 a146 := Tryz.isAgg139
 z146 := Tryz.sizeOf139
 v146 := Tryz.zeroValue139
 g1 := by kernel_rfl
 g3 := by kernel_rfl
 g4 := by kernel_rfl
 i0 := by kernel_rfl
 i3 := by kernel_rfl
 i4 := by kernel_rfl
 i5 := by kernel_rfl
 i9 := by kernel_rfl
 i21 := by kernel_rfl
 i31 := by kernel_rfl
 i46 := by kernel_rfl
 i51 := by kernel_rfl
 i105 := by kernel_rfl
 i138 := by kernel_rfl
 i139 := by kernel_rfl
 i146 := by kernel_rfl
 m1 := by kernel_rfl
 s1_3 := fun w h => Go.Proofs.cell_of_shapedOpen_int (zero := #[.int .i64 0]) (t := 3) h (of_decide_eq_true (by kernel_rfl)) (by kernel_rfl) rfl (by kernel_rfl) (by kernel_rfl) Tryz.underlying3
 m3 := by kernel_rfl
 m4 := by kernel_rfl }
open Go.RowKit Go.Lib in
theorem Tryz.strings_Split_shaped (s sep : ByteArray) (w : World) (h : w.ShapedOpen Tryz.prog) (hs : s.size < 4294967281) (h1 : 1 ≤ sep.size) :
 Calls Tryz.prog 32 #[.string s, .string sep] w fun e w' =>
  e = .returned (.slice (some ⟨w.heap.size, 0, none⟩) (Lib.countB s sep + 1) (Lib.countB s sep + 1)) ∧ w' = w.alloc (.cells ((Lib.splitB sep 0 (Lib.countB s sep) s).map Value.string).toArray 9) := Any.strings_Split_shaped Tryz.laysM146 s sep w h hs h1
end Go.Proofs
set_option linter.unusedVariables false
namespace Go.Proofs
open Go Go.Shelf Go.RowKit
def Tryz.ren167 : Go.Shelf.Ren := ⟨fun | 167 => 83 | 240 => 68 | 276 => 82 | n => n, fun | 0 => 0 | 4 => 4 | 5 => 5 | 9 => 9 | 20 => 20 | 37 => 67 | 70 => 66 | 72 => 69 | 75 => 72 | 80 => 24 | 164 => 105 | n => n, fun | n => n⟩
theorem Tryz.lays167 : Go.Proofs.Lays.n167 Tryz.prog Tryz.ren167 where
 mixed := by kernel_rfl
 f167 := Tryz.func83.trans (congrArg some (by kernel_rfl))
 f240 := Tryz.lays165.f240
 f276 := Tryz.lays165.f276
 t0 := Tryz.underlying0
 a0 := Tryz.isAgg0
 z0 := Tryz.sizeOf0
 v0 := Tryz.zeroValue0
 t4 := Tryz.underlying4
 a4 := Tryz.isAgg4
 z4 := Tryz.sizeOf4
 v4 := Tryz.zeroValue4
 t5 := Tryz.underlying5
 a5 := Tryz.isAgg5
 z5 := Tryz.sizeOf5
 v5 := Tryz.zeroValue5
 t9 := Tryz.underlying9
 a9 := Tryz.isAgg9
 z9 := Tryz.sizeOf9
 v9 := Tryz.zeroValue9
 t20 := Tryz.underlying20
 a20 := Tryz.isAgg20
 z20 := Tryz.sizeOf20
 v20 := Tryz.zeroValue20
 t37 := Tryz.underlying67
 a37 := Tryz.isAgg67
 z37 := Tryz.sizeOf67
 v37 := Tryz.zeroValue67
 t70 := Tryz.underlying66
 a70 := Tryz.isAgg66
 z70 := Tryz.sizeOf66
 v70 := Tryz.zeroValue66
 t72 := Tryz.underlying69
 a72 := Tryz.isAgg69
 z72 := Tryz.sizeOf69
 v72 := Tryz.zeroValue69
 t75 := Tryz.underlying72
 a75 := Tryz.isAgg72
 z75 := Tryz.sizeOf72
 v75 := Tryz.zeroValue72
 t164 := Tryz.underlying105
 a164 := Tryz.isAgg105
 z164 := Tryz.sizeOf105
 v164 := Tryz.zeroValue105
theorem Tryz.extra167 : Builder.Extra Tryz.prog Tryz.ren167 where
 sizeBuilder := by kernel_rfl
 liesBuilder := by kernel_rfl
 t5 := Tryz.underlying5
 a5 := Tryz.isAgg5
 z5 := Tryz.sizeOf5
 v5 := Tryz.zeroValue5
 infoByte := by kernel_rfl
 cellsByte := by kernel_rfl
 sizeByte := by kernel_rfl
 neB5 := by decide
theorem Tryz.copyFresh (b : Nat) (w : World) (h0 : w.cell? ⟨b, 0, none⟩ = some (.pointer none)) (hsh : w.shape? b = some (69, 2)) (hfz : w.frozen? ⟨b, 0, none⟩ = false) :
  Calls Tryz.prog 68 #[.pointer (some ⟨b, 0, none⟩)] w fun e w' => e = .returned (.tuple #[]) ∧ w' = w.setCell ⟨b, 0, none⟩ (.pointer (some ⟨b, 0, none⟩)) :=
 Any.Builder_copyCheck_fresh (ρ := Tryz.ren167) { Tryz.lays167 with } Tryz.extra167.toX72 b w h0 hsh hfz
theorem Tryz.copyUsed (b : Nat) (w : World) (h0 : w.cell? ⟨b, 0, none⟩ = some (.pointer (some ⟨b, 0, none⟩))) :
  Calls Tryz.prog 68 #[.pointer (some ⟨b, 0, none⟩)] w fun e w' => e = .returned (.tuple #[]) ∧ w' = w :=
 Any.Builder_copyCheck_used (ρ := Tryz.ren167) { Tryz.lays167 with } Tryz.extra167.toX72 b w h0
set_option maxHeartbeats 1000000 in
set_option maxRecDepth 100000 in
theorem Tryz.readAll (b g cap : Nat) (p : Value) (cur : Array Value) (l : List UInt8) (w : World) (hbk : w.heap[b]? = some (.cells #[p, .slice (some ⟨g, 0, none⟩) l.length cap] 69 (0, 0))) (hg : w.heap[g]? = some (.cells cur 5 (0, 0)))
  (h0 : l ≠ []) (hc : l.length ≤ cap) (hm : l.length ≤ maxLen) (hcs : cur.size = cap) (hl : ∀ (j : Nat) x, l[j]? = some x → cur[j]? = some (.int .u8 x.toNat)) :
  Calls Tryz.prog 41 #[.pointer (some ⟨b, 0, none⟩)] w fun e w' => e = .returned (.string ⟨l.toArray⟩) ∧ w' = w.drew.freeze ⟨g, 0, none⟩ l.length := by
 have hl0 : l.length ≠ 0 := by simpa using h0
 have c1 : w.drew.cell? ⟨b, 1, none⟩ = some (.slice (some ⟨g, 0, none⟩) l.length cap) := by
  have : w.drew.heap[b]? = some (.cells #[p, .slice (some ⟨g, 0, none⟩) l.length cap] 69 (0, 0)) := hbk
  rw [Lib.cell_of_heap this]; rfl
 have hSD : (Builtin.unsafeSliceData_ #[67] 98 #[.slice (some ⟨g, 0, none⟩) l.length cap]).run Tryz.prog w.drew = .ok (.pointer (some ⟨g, 0, none⟩)) w.drew :=
  Lib.run_unsafeSliceData_row _ _ _ _ _ _ (by omega)
 have hUS : (Builtin.unsafeString_ #[98, 3] 9 #[.pointer (some ⟨g, 0, none⟩), .int .i64 l.length]).run Tryz.prog w.drew = .ok (.string ⟨l.toArray⟩) (w.drew.freeze ⟨g, 0, none⟩ l.length) := by
  refine Lib.run_unsafeString_row w.drew 98 3 9 5 Tryz.underlying98 Tryz.extra167.cellsByte g cur.size (by have hg' : w.drew.heap[g]? = some (.cells cur 5 (0, 0)) := hg; simp [World.shape?, hg']) l h0 (by omega) (by unfold maxLen at hm; omega) ?_
  intro j x hx
  have hg' : w.drew.heap[g]? = some (.cells cur 5 (0, 0)) := hg
  have ea : Addr.add ⟨g, 0, none⟩ j = ⟨g, j, none⟩ := by
   unfold Addr.add
   split
   ·rename_i h; rw [h]
   ·simp
  rw [ea, Lib.cell_of_heap hg']
  exact hl j x hx
 have mixed := Tryz.lays167.mixed
 go_enter Tryz.func41, Tryz.ntmps41
 go_wp2
 go_region_o
 all_goals (go_wp2; go_ret; exact ⟨rfl, rfl⟩)
set_option maxHeartbeats 2000000 in
set_option maxRecDepth 1000000 in
theorem Tryz.growFresh (b n : Nat) (w : World) (hbk : w.heap[b]? = some (.cells #[.pointer (some ⟨b, 0, none⟩), .slice none 0 0] 69 (0, 0))) (hn : n ≤ 281474976710656) :
  Calls Tryz.prog 70 #[.pointer (some ⟨b, 0, none⟩), .int .i64 n] w fun e w' => e = .returned (.tuple #[]) ∧ ∃ cs : Array Value, n ≤ cs.size ∧ cs.size ≤ maxLen ∧ w' = ((w.setCell ⟨b, 1, none⟩ (.slice (some ⟨w.heap.size, 0, none⟩) 0 cs.size)).alloc (.cells cs 5)).drew.drew.drew := by
 obtain ⟨cs, hrun, hle, hmax⟩ := Lib.run_makeNoZero (P := Tryz.prog) w.drew #[3] 67 5 Tryz.underlying67 n hn
 have hw : IntKind.i64.wrap (IntKind.i64.wrap 0 + (n : Int)) = n := by
  rw [IntKind.wrap_i64, IntKind.wrap_i64]
  omega
 have hcall : (callFunc 86 #[.int .i64 (IntKind.i64.wrap (IntKind.i64.wrap 0 + (n : Int)))]).run Tryz.prog w.drew = .ok (.value (.slice (some ⟨w.drew.heap.size, 0, none⟩) n cs.size)) (w.drew.drew.drew.alloc (.cells cs 5)) := by
  rw [hw, run_callFunc_extern Tryz.func86 (by kernel_rfl) (by kernel_rfl) (by kernel_rfl) (e := Extern.BytealgMakeNoZero.makeNoZero #[3] #[67]) (by kernel_rfl), hrun]
  rfl
 have hlt : b < w.heap.size := by
  rcases Nat.lt_or_ge b w.heap.size with h' | h'
  ·exact h'
  ·simp [Array.getElem?_eq_none h'] at hbk
 have c1 : w.drew.cell? ⟨b, 1, none⟩ = some (.slice none 0 0) := by
  have : w.drew.heap[b]? = _ := hbk
  rw [Lib.cell_of_heap this]; rfl
 have c2 : (w.alloc (.cells cs 5)).cell? ⟨b, 1, none⟩ = some (.slice none 0 0) := by
  rw [Lib.cell_of_heap ((Lib.alloc_old w _ b hlt).trans hbk)]; rfl
 have f2 : (w.alloc (.cells cs 5)).frozen? ⟨b, 1, none⟩ = false := Lib.frozen_of_heap ((Lib.alloc_old w _ b hlt).trans hbk) 1
 have hcopy : ∀ W : World, (Builtin.copy_ #[67, 67] 3 #[.slice (some ⟨w.heap.size, 0, none⟩) 0 cs.size, .slice none 0 0]).run Tryz.prog W = .ok (goInt 0) W :=
  fun W => run_copy_none W 67 67 3 5 _ _ 0 cs.size 0 0 Tryz.underlying67 Tryz.extra167.sizeByte rfl
 clear hw
 have mixed := Tryz.lays167.mixed
 go_enter Tryz.func70, Tryz.ntmps70
 go_wp2
 go_region_o
 all_goals (go_wp2; go_end0; exact ⟨rfl, cs, hle, hmax (by unfold maxLen; omega), rfl⟩)
end Go.Proofs
set_option linter.unusedVariables false
namespace Go.Proofs
open Go Go.Shelf Go.RowKit
theorem Tryz.growOne (w : World) : Calls Tryz.prog 42 #[.pointer (some ⟨w.heap.size, 0, none⟩), .int .i64 1] (w.alloc (.cells #[.pointer none, .slice none 0 0] 69)) fun e w' => e = .returned (.tuple #[]) ∧ (Lib.BuilderAt 69 5 w.heap.size w.heap.size (.pointer (some ⟨w.heap.size, 0, none⟩)) [] w' ∧ Below w.heap.size w w') :=
 (Tryz.Builder_Grow_fresh w.heap.size w.heap.size 1 (w.alloc (.cells #[.pointer none, .slice none 0 0] 69)) (Nat.le_refl _) (Go.heap_alloc_new w _) (by simp) (by omega)).mono fun e w' ⟨h1, h2, h3⟩ => ⟨h1, h2, ((Below.refl _ w).alloc (Nat.le_refl _) _).trans h3⟩
theorem Tryz.writeOne (w w1 : World) (c : Int) (h1 : Lib.BuilderAt 69 5 w.heap.size w.heap.size (.pointer (some ⟨w.heap.size, 0, none⟩)) [] w1) (hb : Below w.heap.size w w1) : Calls Tryz.prog 83 #[.pointer (some ⟨w.heap.size, 0, none⟩), .int .u8 c] w1 fun e w' => e = .returned .nilIface ∧ Lib.BuilderAt 69 5 w.heap.size w.heap.size (.pointer (some ⟨w.heap.size, 0, none⟩)) [.int .u8 c] w' ∧ Below w.heap.size w w' :=
 (Any.Builder_WriteByte (ρ := Tryz.ren167) Tryz.lays167 Tryz.extra167 w.heap.size w.heap.size [] c w1 (.inr h1) (by simp) hb.size).mono fun e w' ⟨h1, h2, h3⟩ => ⟨h1, h2, hb.trans h3⟩
theorem Tryz.readOne (w w1 : World) (c : UInt8) (h1 : Lib.BuilderAt 69 5 w.heap.size w.heap.size (.pointer (some ⟨w.heap.size, 0, none⟩)) [.int .u8 c.toNat] w1) (hb : Below w.heap.size w w1) : Calls Tryz.prog 41 #[.pointer (some ⟨w.heap.size, 0, none⟩)] w1 fun e w' => e = .returned (.string ⟨#[c]⟩) ∧ Below w.heap.size w w' :=
 (Tryz.Builder_String_any w.heap.size w.heap.size [c] w1 (.inr h1) hb.size).mono fun e w' ⟨h1, h3⟩ => ⟨h1, hb.trans h3⟩
set_option maxHeartbeats 2000000 in
set_option maxRecDepth 1000000 in
theorem Tryz.lowOne (c : UInt8) (w : World) (h0 : 65 ≤ c.toNat) (h9 : c.toNat ≤ 90) :
  Calls Tryz.prog 69 #[.string ⟨#[c]⟩] w fun e w' => e = .returned (.string ⟨#[c + 32]⟩) ∧ Below w.heap.size w w' := by
 have mixed := Tryz.lays167.mixed
 have e1 : (⟨#[c]⟩ : ByteArray).size = 1 := rfl
 have e0 : ∀ h, (⟨#[c]⟩ : ByteArray)[0]'h = c := fun _ => rfl
 have ec : ((c + 32).toNat : Int) = c.toNat + 32 := by
  have : (c + 32).toNat = (c.toNat + 32) % 256 := UInt8.toNat_add c 32
  omega
 go_enter Tryz.func69, Tryz.ntmps69
 go_wp2
 refine wp_loop_rounds 2 ?_
 simp only [Code.rounds]
 go_wp2_with (go_at_call 42; refine (Tryz.growOne w).mono ?_; rintro e w1 ⟨rfl, h1, hb1⟩)
 all_goals first
  | (exfalso; rename_i h; simp at h; omega)
  | skip
 refine wp_loop_rounds 2 ?_
 simp only [Code.rounds]
 go_wp2_with (first | (go_at_call 83; refine (Tryz.writeOne w w1 _ h1 hb1).mono ?_; rintro e w2 ⟨rfl, h2, hb2⟩) | (go_at_call 41; refine (Tryz.readOne w w2 (c + 32) (by rw [ec]; exact h2) hb2).mono ?_; rintro e w3 ⟨rfl, hb3⟩))
 all_goals first
  | (exfalso; rename_i h; simp at h; omega)
  | (go_ret; exact ⟨rfl, hb3⟩)
  | trace_state
end Go.Proofs
namespace Go.Proofs.YtlaogmemhephnaaGreatDoor
open Go Go.Am Go.RowKit
theorem post_below [Bas] {ι : Inj} {σ : Heap} {W W' : World} (hR : RelW ι σ W) (hb : Below W.heap.size W W') : Post ι σ W ι σ W' :=
 QPost.post ⟨⟨hb.os, hb.tape, hb.output, hb.size⟩, .refl ι, ⟨fun b p h => Nat.lt_of_lt_of_le (hR.lt b p h) hb.size, fun b p x h hx => (hR.blk b p x h hx).keep (.refl ι) (hb.block _ (hR.lt b p h)), hR.sep, hR.gap, Nat.le_trans hR.bsz hb.size, fun c hc => (hb.block c (Nat.lt_of_lt_of_le hc hR.bsz)).trans (hR.bas c hc)⟩, ⟨[], by simp⟩, fun c hc => hb.block c hc, fun b p h hn => by rw [h] at hn; cases hn⟩
class Tabs extends Bas where
 pow : Lib.TabIs Tryz.prog w "internal/strconv.uint64pow10" .u64 Lib.pow10Tab
theorem pow_of [B : Tabs] {ι : Inj} {σ : Heap} {W : World} (hR : RelW ι σ W) : Lib.TabIs Tryz.prog W "internal/strconv.uint64pow10" .u64 Lib.pow10Tab := by
 have h := B.pow
 unfold Lib.TabIs World.var? at h ⊢
 cases hg : Tryz.prog.globalNamed "internal/strconv.uint64pow10" with
 | none => rw [hg] at h; cases h
 | some g =>
  rw [hg] at h
  simp only [Option.bind_some] at h ⊢
  have hlt : g < B.w.heap.size := by
   rcases Nat.lt_or_ge g B.w.heap.size with q | q
   ·exact q
   ·rw [Array.getElem?_eq_none q] at h; cases h
  rw [hR.bas g hlt]
  exact h
section
variable {σ σ' : Heap} {args : List V} {v : V} {ι : Inj} {W : World} {av : List Value}
theorem idx_ok [Bas] (h : idxPrim args σ = some (v, σ')) (hR : RelW ι σ W) (hv : VRL ι args av) :
  Calls Tryz.prog 49 av.toArray W fun e W' => ∃ ι' v', e = .returned v' ∧ VR ι' v v' ∧ Post ι σ W ι' σ' W' := by
 unfold idxPrim at h
 split at h
 ·injection h with h
  injection h with h1 h2
  subst h1; subst h2
  simp only [VRL, VR, S.val] at hv
  obtain ⟨_, _, rfl, rfl, _, _, rfl, rfl, rfl⟩ := hv
  refine (Tryz.strings_IndexByte _ _ W).mono ?_
  rintro e W' ⟨rfl, rfl⟩
  exact ⟨ι, _, rfl, by simp only [VR, S.val], (QPost.refl hR).post⟩
 ·cases h
theorem itoa_ok [Tabs] (h : itoaPrim args σ = some (v, σ')) (hR : RelW ι σ W) (hv : VRL ι args av) :
  Calls Tryz.prog 23 av.toArray W fun e W' => ∃ ι' v', e = .returned v' ∧ VR ι' v v' ∧ Post ι σ W ι' σ' W' := by
 unfold itoaPrim at h
 split at h
 ·split at h
  ·rename_i hb
   injection h with h
   injection h with h1 h2
   subst h1; subst h2
   simp only [VRL, VR, S.val] at hv
   obtain ⟨_, _, rfl, rfl, rfl⟩ := hv
   refine (Tryz.strconv_Itoa _ hb.1 hb.2 W (pow_of hR)).mono ?_
   rintro e W' ⟨rfl, k, os, rfl⟩
   exact ⟨ι, _, rfl, by simp only [VR, S.val], post_below hR (Lib.below_grow _ _ (Nat.le_refl _) k os)⟩
  ·cases h
 ·cases h
theorem has_ok [Bas] (h : hasPrim args σ = some (v, σ')) (hR : RelW ι σ W) (hv : VRL ι args av) :
  Calls Tryz.prog 91 av.toArray W fun e W' => ∃ ι' v', e = .returned v' ∧ VR ι' v v' ∧ Post ι σ W ι' σ' W' := by
 unfold hasPrim at h
 split at h
 ·rename_i s t
  split at h
  ·rename_i hb
   injection h with h
   injection h with h1 h2
   subst h1; subst h2
   simp only [VRL, VR, S.val] at hv
   obtain ⟨_, _, rfl, rfl, _, _, rfl, rfl, rfl⟩ := hv
   have ht : t = ⟨#[t.data.getD 0 0]⟩ := by
    obtain ⟨⟨l⟩⟩ := t
    match l, hb with
    | [x], _ => rfl
   rw [ht]
   refine (Tryz.strings_Contains_one _ _ W).mono ?_
   rintro e W' ⟨rfl, rfl⟩
   exact ⟨ι, _, rfl, rfl, (QPost.refl hR).post⟩
  ·cases h
 ·cases h
theorem low_ok [Bas] (h : lowPrim args σ = some (v, σ')) (hR : RelW ι σ W) (hv : VRL ι args av) :
  Calls Tryz.prog 69 av.toArray W fun e W' => ∃ ι' v', e = .returned v' ∧ VR ι' v v' ∧ Post ι σ W ι' σ' W' := by
 unfold lowPrim at h
 split at h
 ·rename_i t
  split at h
  ·rename_i hb
   injection h with h
   injection h with h1 h2
   subst h1; subst h2
   simp only [VRL, VR, S.val] at hv
   obtain ⟨_, _, rfl, rfl, rfl⟩ := hv
   have ht : t = ⟨#[t.data.getD 0 0]⟩ := by
    obtain ⟨⟨l⟩⟩ := t
    match l, hb.1 with
    | [x], _ => rfl
   rw [ht]
   refine (Tryz.lowOne _ W hb.2.1 hb.2.2).mono ?_
   rintro e W' ⟨rfl, hbl⟩
   exact ⟨ι, _, rfl, rfl, post_below hR hbl⟩
  ·cases h
 ·cases h
theorem bld_blk {t : TypeId} {b : Nat} {x y : V} {p : Am.Place} [Bas] (hR : RelW ι σ W) (hp : ι b = some p) (hb : σ[b]? = some (.vs (.ty t) [x, y])) :
  p.base = 0 ∧ p.n = 2 ∧ ∃ u0 u1, W.heap[p.c]? = some (.cells #[u0, u1] t (0, 0)) ∧ VR ι x u0 ∧ VR ι y u1 := by
 obtain ⟨h1, h2, h3⟩ := hR.blk b p _ hp hb
 obtain ⟨hb0, hle, cs, T, hc, hs, hT, hsz⟩ := h3 rfl
 obtain rfl : T = t := hT
 have hn : p.n = 2 := h1.symm
 have h0 := h2 0 x rfl
 have h1' := h2 1 y rfl
 obtain ⟨u0, hu0, r0⟩ := h0
 obtain ⟨u1, hu1, r1⟩ := h1'
 have hcs : cs.size = 2 := by omega
 rw [hb0] at hu0 hu1
 rw [Lib.cell_of_heap hc] at hu0 hu1
 obtain ⟨l⟩ := cs
 match l, hcs with
 | [a, c], _ =>
  simp at hu0 hu1
  subst hu0; subst hu1
  exact ⟨hb0, hn, a, c, hc, r0, r1⟩
theorem copy_ok [Bas] (h : copyPrim 69 args σ = some (v, σ')) (hR : RelW ι σ W) (hv : VRL ι args av) :
  Calls Tryz.prog 68 av.toArray W fun e W' => ∃ ι' v', e = .returned v' ∧ VR ι' v v' ∧ Post ι σ W ι' σ' W' := by
 unfold copyPrim at h
 split at h
 ·rename_i b
  simp only [VRL, VR] at hv
  obtain ⟨_, _, rfl, ⟨p, hp, hz, rfl⟩, rfl⟩ := hv
  split at h
  ·rename_i t x hb
   split at h
   ·rename_i ht
    subst ht
    injection h with h
    injection h with h1 h2
    subst h1; subst h2
    obtain ⟨hb0, hn, u0, u1, hc, r0, r1⟩ := bld_blk hR hp hb
    simp only [VR] at r0
    subst r0
    rw [hb0, Nat.zero_add]
    refine (Tryz.copyFresh p.c W (by rw [Lib.cell_of_heap hc]; rfl) (by simp [World.shape?, hc]) (Lib.frozen_of_heap hc 0)).mono ?_
    rintro e W' ⟨rfl, rfl⟩
    have hw : (W.setCell ⟨p.c, 0, none⟩ (.pointer (some ⟨p.c, 0, none⟩))).heap[p.c]? = some (.cells #[.pointer (some ⟨p.c, 0, none⟩), u1] 69 (0, 0)) := by
     simp [World.setCell, Array.getElem?_modify, hc]
    refine ⟨ι, _, rfl, ⟨[], rfl, rfl⟩, eff_set hR hp hb rfl ⟨rfl, rfl, rfl, by simp⟩ (fun c hne => by simp [World.setCell, Array.getElem?_modify, Ne.symm hne]) ⟨hn.symm, fun i y hy => ?_, fun _ => ⟨hb0, by have := hR.blk b p _ hp hb; obtain ⟨_, _, h3⟩ := this; exact (h3 rfl).2.1, _, _, hw, ?_, rfl, ?_⟩⟩⟩
    ·rw [hb0, Nat.zero_add, Lib.cell_of_heap hw]
     match i, hy with
     | 0, hy => simp at hy; subst hy; exact ⟨_, rfl, by simp only [VR]; exact ⟨p, hp, hz, by rw [hb0]; rfl⟩⟩
     | 1, hy => simp at hy; subst hy; exact ⟨_, rfl, r1⟩
     | i + 2, hy => simp at hy
    ·obtain ⟨_, _, h3⟩ := hR.blk b p _ hp hb
     obtain ⟨_, _, cs, T, hc2, hs, _, hsz⟩ := h3 rfl
     rw [hsz, hn]; rfl
    ·obtain ⟨_, _, h3⟩ := hR.blk b p _ hp hb
     obtain ⟨_, _, cs, T, hc2, hs, _, hsz⟩ := h3 rfl
     exact hsz
   ·cases h
  ·rename_i t c x hb
   split at h
   ·rename_i ht
    obtain ⟨rfl, rfl⟩ := ht
    injection h with h
    injection h with h1 h2
    subst h1; subst h2
    obtain ⟨hb0, hn, u0, u1, hc, r0, r1⟩ := bld_blk hR hp hb
    simp only [VR] at r0
    obtain ⟨p', hp', _, rfl⟩ := r0
    rw [hp] at hp'
    injection hp' with hp'
    subst hp'
    rw [hb0, Nat.zero_add]
    rw [hb0] at hc
    refine (Tryz.copyUsed p.c W (by rw [Lib.cell_of_heap hc]; rfl)).mono ?_
    rintro e W' ⟨rfl, rfl⟩
    exact ⟨ι, _, rfl, ⟨[], rfl, rfl⟩, (QPost.refl hR).post⟩
   ·cases h
  ·cases h
 ·cases h
theorem grow_ok [Bas] (h : growPrim 69 5 args σ = some (v, σ')) (hR : RelW ι σ W) (hD : Dom ι σ) (hv : VRL ι args av) :
  Calls Tryz.prog 70 av.toArray W fun e W' => ∃ ι' v', e = .returned v' ∧ VR ι' v v' ∧ Post ι σ W ι' σ' W' := by
 unfold growPrim at h
 split at h
 ·rename_i b n
  simp only [VRL, VR, S.val] at hv
  obtain ⟨_, _, rfl, ⟨p, hp, hz, rfl⟩, _, _, rfl, rfl, rfl⟩ := hv
  split at h
  ·rename_i t c hb
   split at h
   ·rename_i ht
    obtain ⟨rfl, hcb, hn0, hn1⟩ := ht
    obtain rfl : b = c := hcb.symm
    injection h with h
    injection h with h1 h2
    subst h1; subst h2
    obtain ⟨hb0, hn, u0, u1, hc, r0, r1⟩ := bld_blk hR hp hb
    simp only [VR] at r0 r1
    obtain ⟨p', hp', _, rfl⟩ := r0
    rw [hp] at hp'
    injection hp' with hp'
    subst hp'
    subst r1
    rw [hb0, Nat.zero_add]
    rw [hb0, Nat.zero_add] at hc
    obtain ⟨k, rfl⟩ : ∃ k : Nat, n = k := ⟨n.toNat, by omega⟩
    refine (Tryz.growFresh p.c k W hc (by omega)).mono ?_
    rintro e W' ⟨rfl, cs, hk, hmax, rfl⟩
    have hlt : p.c < W.heap.size := hR.lt b p hp
    let W1 := W.setCell ⟨p.c, 1, none⟩ (.slice (some ⟨W.heap.size, 0, none⟩) 0 cs.size)
    have hw : W1.heap[p.c]? = some (.cells #[.pointer (some ⟨p.c, 0, none⟩), .slice (some ⟨W.heap.size, 0, none⟩) 0 cs.size] 69 (0, 0)) := by
     simp [W1, World.setCell, Array.getElem?_modify, hc]
    have hsz1 : W1.heap.size = W.heap.size := by simp [W1, World.setCell]
    have hnone : ι σ.length = none := by
     cases q : ι σ.length with
     | none => rfl
     | some r => exact absurd (hD _ _ q) (Nat.lt_irrefl _)
    obtain ⟨_, hle, _, _, _, hs, _, hsz⟩ := (hR.blk b p _ hp hb).2.2 rfl
    have q1 : Post ι σ W ι (σ.set b (.vs (.ty 69) [.ptr b 0 2, .undef])) W1 := eff_set hR hp hb rfl ⟨rfl, rfl, rfl, by simp [W1]⟩ (fun c hne => by simp [W1, World.setCell, Array.getElem?_modify, Ne.symm hne]) ⟨hn.symm, fun i y hy => by
     rw [hb0, Nat.zero_add, Lib.cell_of_heap hw]
     match i, hy with
     | 0, hy => simp at hy; subst hy; exact ⟨_, rfl, by simp only [VR]; exact ⟨p, hp, hz, by rw [hb0]; rfl⟩⟩
     | 1, hy => simp at hy; subst hy; exact ⟨_, rfl, trivial⟩
     | i + 2, hy => simp at hy, fun _ => ⟨hb0, hle, _, _, hw, by rw [hsz, hn]; rfl, rfl, hsz⟩⟩
    have hlen : (σ.set b (.vs (.ty 69) [.ptr b 0 2, .undef])).length = σ.length := by simp
    have q2 := alloc_q (q1.rel) (by rw [hlen]; exact hnone) (.cells cs 5) (.sc (.gty 5) 0 (strS .empty)) ⟨W1.heap.size, 0, 0, cs.size, cs.size⟩ rfl ⟨rfl, fun i hi => by omega, fun _ => ⟨rfl, Nat.zero_le _, cs, 5, heap_alloc_at W1 _, rfl, rfl⟩⟩
    rw [hlen] at q2
    have hext := q2.ext
    have hbl := hD b p hp
    have q3 : Post (ι.put σ.length ⟨W1.heap.size, 0, 0, cs.size, cs.size⟩) (σ.set b (.vs (.ty 69) [.ptr b 0 2, .undef]) ++ [Blk.sc (.gty 5) 0 (strS .empty)]) (W1.alloc (.cells cs 5)) (ι.put σ.length ⟨W1.heap.size, 0, 0, cs.size, cs.size⟩) ((σ.set b (.vs (.ty 69) [.ptr b 0 2, .undef]) ++ [Blk.sc (.gty 5) 0 (strS .empty)]).set b (.vs (.ty 69) [.ptr b 0 2, .sl σ.length 0 0 1 .whole])) (W1.alloc (.cells cs 5)) :=
     eff_set q2.rel (p := p) (x := .vs (.ty 69) [.ptr b 0 2, .undef]) (hext _ _ hp) (by rw [List.getElem?_append_left (by simpa using hbl), List.getElem?_set_self hbl]) rfl ⟨rfl, rfl, rfl, Nat.le_refl _⟩ (fun _ _ => rfl) ⟨hn.symm, fun i y hy => by
      have hw2 : (W1.alloc (.cells cs 5)).heap[p.c]? = _ := (heap_alloc W1 _ _ (by rw [hsz1]; exact hlt)).trans hw
      rw [hb0, Nat.zero_add, Lib.cell_of_heap hw2]
      match i, hy with
      | 0, hy => simp at hy; subst hy; exact ⟨_, rfl, by simp only [VR]; exact ⟨p, hext _ _ hp, hz, by rw [hb0]; rfl⟩⟩
      | 1, hy => simp at hy; subst hy; exact ⟨_, rfl, _, cs.size, Inj.put_same _ _ _, Nat.le_refl _, by rw [hsz1]; rfl, rfl, rfl, rfl, Nat.zero_le _, Nat.mul_one _, rfl⟩
      | i + 2, hy => simp at hy, fun _ => ⟨hb0, hle, _, _, (heap_alloc W1 _ _ (by rw [hsz1]; exact hlt)).trans hw, by rw [hsz, hn]; rfl, rfl, hsz⟩⟩
    have hset : (σ.set b (.vs (.ty 69) [.ptr b 0 2, .undef]) ++ [Blk.sc (.gty 5) 0 (strS .empty)]).set b (.vs (.ty 69) [.ptr b 0 2, .sl σ.length 0 0 1 .whole]) = σ.set b (.vs (.ty 69) [.ptr b 0 2, .sl σ.length 0 0 1 .whole]) ++ [Blk.sc (.gty 5) 0 (strS .empty)] := by
     rw [List.set_append_left _ _ (by simpa using hbl), List.set_set]
    rw [hset] at q3
    have hD1 : Dom ι (σ.set b (.vs (.ty 69) [.ptr b 0 2, .undef])) := fun c q h => by rw [hlen]; exact hD c q h
    have hD2 : Dom (ι.put σ.length ⟨W1.heap.size, 0, 0, cs.size, cs.size⟩) (σ.set b (.vs (.ty 69) [.ptr b 0 2, .undef]) ++ [Blk.sc (.gty 5) 0 (strS .empty)]) := q2.post.dom hD1
    have qq := (q1.trans hD (q2.post)).trans hD q3
    refine ⟨ι.put σ.length ⟨W1.heap.size, 0, 0, cs.size, cs.size⟩, _, rfl, ⟨[], rfl, rfl⟩, ?_⟩
    exact ⟨⟨qq.same.os, qq.same.tape, qq.same.output, qq.same.size⟩, qq.ext, qq.rel.toDrew.toDrew.toDrew, qq.len, qq.frame, qq.fresh, qq.mono, qq.lives⟩
   ·cases h
  ·cases h
 ·cases h
theorem okByte_val {x : S} (h : okByte x = true) : x.val = .int .u8 (UInt8.ofNat (Am.byteOf x)).toNat := by
 cases x with
 | int k n =>
  cases k <;> simp [okByte] at h
  have : (UInt8.ofNat n.toNat).toNat = n.toNat := by
   rw [UInt8.toNat_ofNat']
   omega
  simp only [Am.byteOf, S.val, this]
  rw [Int.toNat_of_nonneg h.1]
 | bool b => simp [okByte] at h
 | str s => simp [okByte] at h
theorem str_ok [Bas] (h : strPrim 69 5 args σ = some (v, σ')) (hR : RelW ι σ W) (hv : VRL ι args av) :
  Calls Tryz.prog 41 av.toArray W fun e W' => ∃ ι' v', e = .returned v' ∧ VR ι' v v' ∧ Post ι σ W ι' σ' W' := by
 unfold strPrim at h
 split at h
 ·rename_i b
  simp only [VRL, VR] at hv
  obtain ⟨_, _, rfl, ⟨p, hp, hz, rfl⟩, rfl⟩ := hv
  split at h
  ·rename_i t x g m hb
   split at h
   ·rename_i e q f hg
    split at h
    ·rename_i ht
     obtain ⟨rfl, rfl, hm0, hm, hall⟩ := ht
     injection h with h
     injection h with h1 h2
     subst h1; subst h2
     obtain ⟨hb0, hn, u0, u1, hc, r0, r1⟩ := bld_blk hR hp hb
     simp only [VR, capOK] at r1
     obtain ⟨pg, cap, hpg, hle, rfl, _, hgb, hcp, hmc, hcs, hmn⟩ := r1
     obtain ⟨hq, hcell, hown⟩ := hR.blk g pg _ hpg hg
     obtain ⟨_, _, cur, T, hgc, hcz, hT⟩ := hown rfl
     obtain rfl : T = 5 := hT
     rw [hb0, Nat.zero_add]
     rw [hgb, Nat.zero_add] at hc
     have hlen : (bytesOf f m).length = m := by simp [bytesOf]
     refine (Tryz.readAll p.c pg.c cap u0 cur (bytesOf f m) W (by rw [hlen]; exact hc) hgc (fun e => hm0 (by rw [← hlen, e]; rfl)) (by omega) (by unfold maxLen; omega) (by omega) (fun j y hy => ?_)).mono ?_
     ·have hj : j < m := by
       rw [← hlen]
       exact (List.getElem?_eq_some_iff.1 hy).1
      have h1 := hcell j (by omega)
      rw [hgb, Nat.zero_add, Lib.cell_of_heap hgc] at h1
      rw [h1, okByte_val (List.all_eq_true.1 hall j (List.mem_range.2 hj))]
      have : (bytesOf f m)[j]? = some (UInt8.ofNat (Am.byteOf (f j))) := by simp [bytesOf, hj]
      rw [this] at hy
      injection hy with hy
      rw [hy]
     ·rintro e W' ⟨rfl, rfl⟩
      have hk : ∀ c, c ≠ pg.c → (W.drew.freeze ⟨pg.c, 0, none⟩ (bytesOf f m).length).heap[c]? = W.heap[c]? := fun c hne => by
       unfold World.freeze
       rw [if_neg (by rw [hlen]; exact hm0)]
       simp only [Array.getElem?_modify]
       rw [if_neg (Ne.symm hne)]
       rfl
      have hs : (W.drew.freeze ⟨pg.c, 0, none⟩ (bytesOf f m).length).heap.size = W.heap.size := by
       unfold World.freeze
       split
       ·rfl
       ·simp
      have ho : (W.drew.freeze ⟨pg.c, 0, none⟩ (bytesOf f m).length).os = W.os ∧ (W.drew.freeze ⟨pg.c, 0, none⟩ (bytesOf f m).length).tape = W.tape ∧ (W.drew.freeze ⟨pg.c, 0, none⟩ (bytesOf f m).length).output = W.output := by
       unfold World.freeze
       split <;> exact ⟨rfl, rfl, rfl⟩
      exact ⟨ι, _, rfl, rfl, eff_set hR hpg hg rfl ⟨ho.1, ho.2.1, ho.2.2, by rw [hs]; exact Nat.le_refl _⟩ hk trivial⟩
    ·cases h
   ·cases h
  ·cases h
 ·cases h
end
theorem primsOK [Tabs] : PrimsOK Tryz.prog AM := by
 intro f pf hpf args σ v σ' h
 have hb : primF f = some pf := hpf
 unfold primF at hb
 cases h0 : Nat.beq f 49 with
 | true =>
  rw [h0] at hb; injection hb with hb; subst hb
  obtain rfl := Nat.eq_of_beq_eq_true h0
  exact ⟨⟨_, Tryz.func49, by kernel_rfl, by decide⟩, fun ι W av hR _ hv => idx_ok h hR hv⟩
 | false =>
 rw [h0, cond_false] at hb
 cases h0 : Nat.beq f 23 with
 | true =>
  rw [h0] at hb; injection hb with hb; subst hb
  obtain rfl := Nat.eq_of_beq_eq_true h0
  exact ⟨⟨_, Tryz.func23, by kernel_rfl, by decide⟩, fun ι W av hR _ hv => itoa_ok h hR hv⟩
 | false =>
 rw [h0, cond_false] at hb
 cases h0 : Nat.beq f 91 with
 | true =>
  rw [h0] at hb; injection hb with hb; subst hb
  obtain rfl := Nat.eq_of_beq_eq_true h0
  exact ⟨⟨_, Tryz.func91, by kernel_rfl, by decide⟩, fun ι W av hR _ hv => has_ok h hR hv⟩
 | false =>
 rw [h0, cond_false] at hb
 cases h0 : Nat.beq f 69 with
 | true =>
  rw [h0] at hb; injection hb with hb; subst hb
  obtain rfl := Nat.eq_of_beq_eq_true h0
  exact ⟨⟨_, Tryz.func69, by kernel_rfl, by decide⟩, fun ι W av hR _ hv => low_ok h hR hv⟩
 | false =>
 rw [h0, cond_false] at hb
 cases h0 : Nat.beq f 68 with
 | true =>
  rw [h0] at hb; injection hb with hb; subst hb
  obtain rfl := Nat.eq_of_beq_eq_true h0
  exact ⟨⟨_, Tryz.func68, by kernel_rfl, by decide⟩, fun ι W av hR _ hv => copy_ok h hR hv⟩
 | false =>
 rw [h0, cond_false] at hb
 cases h0 : Nat.beq f 70 with
 | true =>
  rw [h0] at hb; injection hb with hb; subst hb
  obtain rfl := Nat.eq_of_beq_eq_true h0
  exact ⟨⟨_, Tryz.func70, by kernel_rfl, by decide⟩, fun ι W av hR hD hv => grow_ok h hR hD hv⟩
 | false =>
 rw [h0, cond_false] at hb
 cases h0 : Nat.beq f 41 with
 | true =>
  rw [h0] at hb; injection hb with hb; subst hb
  obtain rfl := Nat.eq_of_beq_eq_true h0
  exact ⟨⟨_, Tryz.func41, by kernel_rfl, by decide⟩, fun ι W av hR _ hv => str_ok h hR hv⟩
 | false =>
 rw [h0] at hb
 cases hb
theorem runOK [Tabs] : RunOK Tryz.prog (Run AM) := run_ok fnsOK primsOK (by kernel_rfl)
end Go.Proofs.YtlaogmemhephnaaGreatDoor
namespace Go.Proofs.YtlaogmemhephnaaGreatDoor
set_option linter.unusedSimpArgs false
set_option linter.unusedVariables false
open Go Go.Am Go.ChangeShapes Go.WideShapes Go.ChangeAt Go.RowKit
theorem Tryz.own : ownKnob Tryz.prog.godebug = none := by kernel_rfl
theorem Tryz.laidOut : laidOutB Tryz.prog = true := by kernel_rfl
abbrev tabsL : List (String × DataW Unit) := [("math/bits.deBruijn32tab", Rows.laid_math_bits_deBruijn32tab), ("math/bits.deBruijn64tab", Rows.laid_math_bits_deBruijn64tab), ("internal/strconv.uint64pow10", Rows.laid_internal_strconv_uint64pow10), ("unicode/utf8.acceptRanges", Rows.laid_unicode_utf8_acceptRanges), ("unicode.CaseRanges", Rows.laid_unicode_CaseRanges), ("unicode/utf8.first", Rows.laid_unicode_utf8_first)]
theorem pow_name : Tryz.prog.globalNamed "internal/strconv.uint64pow10" = some ((Tryz.prog.globalNamed "internal/strconv.uint64pow10").getD 0) := by kernel_rfl
theorem pow_laid {W : World} (h : laidMetH Tryz.prog tabsL W) : Lib.TabIs Tryz.prog W "internal/strconv.uint64pow10" .u64 Lib.pow10Tab := by
 rw [MakeChecks.laidMetH_plain _ _ _ (by kernel_rfl)] at h
 have h := h.filter (fun x => x.1 == "internal/strconv.uint64pow10")
 have e : (tabsL.filter fun x => x.1 == "internal/strconv.uint64pow10") = [("internal/strconv.uint64pow10", Lib.tabData .u64 Lib.pow10Tab)] := by kernel_rfl
 rw [e] at h
 exact Lib.tabIs_of_head pow_name (t := 126) (by kernel_rfl) (e := 112) (n := 20) (by kernel_rfl) (by kernel_rfl) (by kernel_rfl) (by kernel_rfl) h
@[reducible] def tabsAt {W : World} (h : laidMetH Tryz.prog tabsL W) : Tabs := { w := W, pow := pow_laid h }
theorem tabs_met (os : Os) (args : Array Value) : laidMetH Tryz.prog tabsL ((World.laidAll Tryz.prog os tabsL).forCall (fun _ _ => 0) ⟨#[], args, []⟩).memory := by
 rw [MakeChecks.laidMetH_plain _ _ _ (by kernel_rfl)]
 exact laidMet_laidAll _ (by kernel_rfl) (by kernel_rfl)
def zeros (n : Nat) : Value := .agg (Array.replicate n (.int .i64 0))
end Go.Proofs.YtlaogmemhephnaaGreatDoor
set_option linter.unusedVariables false
namespace Go.Proofs.YtlaogmemhephnaaGreatDoor
open Go Go.Am
theorem copy_BC (own : Bool) : BC AM own 68 [] 69 (.tup []) := by
 refine ⟨[.vs (.ty 69) [.ptr 0 0 2, .snil]], ?_, rfl⟩
 rw [Run_prim (pf := copyPrim 69) rfl]
 cases own <;> rfl
theorem copy_BU (m : Nat) (g : Nat → S) : BU AM 68 [] 69 5 m g (.tup []) := by
 refine ⟨[.vs (.ty 69) [.ptr 0 0 2, .sl 1 0 m 1 .whole], .sc (.gty 5) m g], ?_, rfl, rfl⟩
 rw [Run_prim (pf := copyPrim 69) rfl]
 rfl
theorem grow_BN {n : Int} (h0 : 0 ≤ n) (h1 : n ≤ 281474976710656) : BN AM true 70 [.s (.int .i64 n)] 69 5 (.tup []) 0 (strS .empty) := by
 refine ⟨[.vs (.ty 69) [.ptr 0 0 2, .sl 1 0 0 1 .whole], .sc (.gty 5) 0 (strS .empty)], 1, ?_, rfl, Nat.le_refl _, rfl⟩
 rw [Run_prim (pf := growPrim 69 5) rfl]
 simp only [growPrim, self, cond_true, List.getElem?_cons_zero]
 rw [if_pos ⟨trivial, trivial, h0, h1⟩]
 rfl
theorem bytes_strS (s : ByteArray) : bytesOf (strS s) s.size = s.data.toList := by
 refine List.ext_getElem (by simp [bytesOf]) fun i h1 h2 => ?_
 have hi : i < s.data.size := by simpa using h2
 simp only [bytesOf, List.getElem_map, List.getElem_range, strS, Am.byteOf, Array.getElem_toList]
 rw [Array.getD_eq_getD_getElem?, Array.getElem?_eq_getElem hi, Option.getD_some]
 simp
theorem ok_strS (s : ByteArray) (m : Nat) : (List.range m).all (fun i => okByte (strS s i)) = true := by
 rw [List.all_eq_true]
 intro i _
 simp only [strS, okByte, decide_eq_true_eq]
 have := (s.data.getD i 0).toNat_lt
 omega
theorem str_BE (s : ByteArray) (h0 : s.size ≠ 0) (h1 : s.size ≤ 140737488355328) : BE AM 41 [] 69 5 s.size (strS s) (.s (.str s)) := by
 refine ⟨[.vs (.ty 69) [.ptr 0 0 2, .sl 1 0 s.size 1 .whole], .dead], ?_, rfl, rfl⟩
 rw [Run_prim (pf := strPrim 69 5) rfl]
 simp only [strPrim, List.getElem?_cons_zero, List.getElem?_cons_succ]
 rw [if_pos ⟨trivial, trivial, h0, h1, ok_strS s _⟩, bytes_strS]
 rfl
theorem write_BN (own : Bool) (t : ByteArray) (h0 : t.size ≠ 0) (hr : t.size ≤ 140737488355328) : BN AM own 39 [.s (.str t)] 69 5 (.tup [.s (.int .i64 t.size), .inil]) t.size (strS t) := by
 suffices h : WR AM 39 [.ptr 0 0 2, .s (.str t)] [.vs (.ty 69) [self own 0, .snil]] (fun v _ L => v = .tup [.s (.int .i64 t.size), .inil] ∧ (0, Blk.vs (.ty 69) [.ptr 0 0 2, .sl 1 0 t.size 1 .whole]) ∈ L ∧ (1, Blk.sc (.gty 5) t.size (strS t)) ∈ L) by
  obtain ⟨v, σ', n', L', h1, h2, rfl, h3, h4⟩ := h
  exact ⟨σ', 1, h1, (h2.2.mem h3).2, Nat.le_refl _, (h2.2.mem h4).2⟩
 refine WR_fn (a := a39) rfl rfl (entryF _) (entry_E (Nat.le_of_ble_eq_true rfl)) (m := 1) rfl ?_
 refine WP_seq (WP_ops ?_)
 refine WO_mv rfl (WO_mv rfl (WO_nil ?_))
 refine WP_seq (WP_ops ?_)
 refine WO_mv rfl ?_
 refine WO_bldC (own := own) (copy_BC own) rfl rfl rfl rfl .here (WO_nil ?_)
 refine WP_seq (WP_ops ?_)
 refine WO_mv rfl (WO_mv rfl ?_)
 refine WO_nilckP rfl ?_
 refine WO_fa (o' := 1) rfl rfl rfl ?_
 refine WO_ldV rfl rfl (.head _) rfl ?_
 refine WO_mv rfl ?_
 refine WO_appbN (t := t) rfl rfl h0 (by simpa [roomy] using hr) ?_
 refine WO_nilckP rfl ?_
 refine WO_fa (o' := 1) rfl rfl rfl ?_
 refine WO_stV rfl rfl rfl rfl rfl rfl rfl rfl (.there .here) (WO_nil ?_)
 refine WP_seq (WP_ops ?_)
 refine WO_mv rfl ?_
 refine WO_lenS rfl ?_
 refine WO_mv rfl (WO_mv rfl (WO_nil ?_))
 refine WP_ret ?_
 exact ⟨_, RS_tmp rfl (RS_tmp rfl RS_nil), rfl, .tail _ (.head _), .head _⟩
theorem write_BW (s t : ByteArray) (hr : s.size + t.size ≤ 140737488355328) : BW AM 39 [.s (.str t)] 69 5 s.size (strS s) (.tup [.s (.int .i64 t.size), .inil]) (s ++ t).size (strS (s ++ t)) := by
 have hsz : (s ++ t).size = s.size + t.size := ByteArray.size_append
 suffices h : WR AM 39 [.ptr 0 0 2, .s (.str t)] [.vs (.ty 69) [.ptr 0 0 2, .sl 1 0 s.size 1 .whole], .sc (.gty 5) s.size (strS s)] (fun v _ L => v = .tup [.s (.int .i64 t.size), .inil] ∧ (0, Blk.vs (.ty 69) [.ptr 0 0 2, .sl 2 0 (s.size + t.size) 1 .whole]) ∈ L ∧ (1, Blk.dead) ∈ L ∧ (2, Blk.sc (.gty 5) (s.size + t.size) (fun i => bif Nat.blt i s.size then strS s i else strS t (i - s.size))) ∈ L) by
  obtain ⟨v, σ', n', L', h1, h2, rfl, h3, h4, h5⟩ := h
  rw [hsz, ← strS_append]
  exact ⟨σ', 2, h1, (h2.2.mem h3).2, Nat.le_refl _, (h2.2.mem h4).2, (h2.2.mem h5).2⟩
 refine WR_fn (a := a39) rfl rfl (entryF _) (entry_E (Nat.le_of_ble_eq_true rfl)) (m := 2) rfl ?_
 refine WP_seq (WP_ops ?_)
 refine WO_mv rfl (WO_mv rfl (WO_nil ?_))
 refine WP_seq (WP_ops ?_)
 refine WO_mv rfl ?_
 refine WO_bldU (copy_BU _ _) rfl rfl rfl rfl (.head _) (.tail _ (.head _)) (WO_nil ?_)
 refine WP_seq (WP_ops ?_)
 refine WO_mv rfl (WO_mv rfl ?_)
 refine WO_nilckP rfl ?_
 refine WO_fa (o' := 1) rfl rfl rfl ?_
 refine WO_ldV rfl rfl (.head _) rfl ?_
 refine WO_mv rfl ?_
 refine WO_appbW (t := t) rfl rfl (by simpa [roomy] using hr) (.there .here) ?_
 refine WO_nilckP rfl ?_
 refine WO_fa (o' := 1) rfl rfl rfl ?_
 refine WO_stV rfl rfl rfl rfl rfl rfl rfl rfl (.there .here) (WO_nil ?_)
 refine WP_seq (WP_ops ?_)
 refine WO_mv rfl ?_
 refine WO_lenS rfl ?_
 refine WO_mv rfl (WO_mv rfl (WO_nil ?_))
 refine WP_ret ?_
 exact ⟨_, RS_tmp rfl (RS_tmp rfl RS_nil), rfl, .tail _ (.head _), .tail _ (.tail _ (.head _)), .head _⟩
end Go.Proofs.YtlaogmemhephnaaGreatDoor
set_option linter.unusedVariables false
set_option linter.unusedSimpArgs false
namespace Go.Am
open Go
section
variable {A : AP} {N : Nat} {f : FE} {n : Nat} {L : HA} {K : KN} {Zp : V → KN} {l : List I} {d : Nat}
theorem WO_alloct {t : TypeId} {vs : List V} (k : WO A N l (upd f d (.ptr n 0 vs.length)) (n + 1) ((n, .vs (.ty t) vs) :: L) K Zp) : WO A N (⟨some d, none, .h (.alloct t vs)⟩ :: l) f n L K Zp :=
 WO_h (v := .ptr n 0 vs.length) (fun σ h => ⟨σ ++ [.vs (.ty t) vs], by simp only [heapV, h.1], h.new _⟩) k
def tailC : Cp → Cp
 | .ex k => .ex (k - 1)
 | _ => .unk
def roomC (m : Nat) : Cp → Prop
 | .ex k => m ≤ k
 | _ => True
theorem WO_slTail {x y : O} {b m : Nat} {c : Cp} (hx : x.fv N f = .sl b 0 m 1 c) (hy : y.fv N f = .s (.int .i64 1)) (hm : 2 ≤ m) (hc : roomC m c) (k : WO A N l (upd f d (.sl b 1 (m - 1) 1 (tailC c))) n L K Zp) : WO A N (⟨some d, none, .p (.slV 1 x (some y) none)⟩ :: l) f n L K Zp :=
 WO_p (v := .sl b 1 (m - 1) 1 (tailC c)) (by
  have hl : fvb N f (some y) 0 = some 1 := by simp only [fvb, hy, num?]
  have hh : fvb N f (none : Option O) m = some (m : Int) := rfl
  simp only [pureV, ev_E, hx, bound_E, hl, hh, if_true]
  cases c with
  | ex q =>
   have hq : m ≤ q := hc
   simp only [tailC]
   rw [if_pos (by omega), if_neg (by simp; omega)]
   simp
  | unk => simp only [tailC]; rw [if_pos (by omega), if_pos (by omega)]; simp
  | whole => simp only [tailC]; rw [if_pos (by omega), if_pos (by omega)]; simp) k
end
end Go.Am
namespace Go.Proofs.YtlaogmemhephnaaGreatDoor
open Go Go.Am
def catF (X : Nat → ByteArray) (sep : ByteArray) : Nat → ByteArray
 | 0 => X 0
 | i + 1 => catF X sep i ++ sep ++ X (i + 1)
def sumF (X : Nat → ByteArray) : Nat → Nat
 | 0 => 0
 | i + 1 => sumF X i + (X i).size
theorem cat_size (X : Nat → ByteArray) (sep : ByteArray) : ∀ i, (catF X sep i).size = sumF X (i + 1) + i * sep.size
 | 0 => by simp [catF, sumF]
 | i + 1 => by
  rw [catF, ByteArray.size_append, ByteArray.size_append, cat_size X sep i]
  simp only [sumF, Nat.add_mul, Nat.one_mul]
  omega
theorem sum_le (X : Nat → ByteArray) {i : Nat} : ∀ {j : Nat}, i ≤ j → sumF X i ≤ sumF X j
  | 0, h => by have : i = 0 := by omega
               subst this; exact Nat.le_refl _
  | j + 1, h => by
    by_cases e : i = j + 1
    · subst e; exact Nat.le_refl _
    · have := sum_le X (i := i) (j := j) (by omega)
      simp only [sumF]; omega
theorem cat_le (X : Nat → ByteArray) (sep : ByteArray) {i j : Nat} (h : i ≤ j) : (catF X sep i).size ≤ (catF X sep j).size := by
 rw [cat_size, cat_size]
 have := sum_le X (show i + 1 ≤ j + 1 by omega)
 have := Nat.mul_le_mul_right sep.size h
 omega
theorem Grow_BN {n : Int} (h0 : 0 < n) (h1 : n ≤ 281474976710656) : BN AM false 42 [.s (.int .i64 n)] 69 5 (.tup []) 0 (strS .empty) := by
 suffices h : WR AM 42 [.ptr 0 0 2, .s (.int .i64 n)] [.vs (.ty 69) [self false 0, .snil]] (fun v _ L => v = .tup [] ∧ (0, Blk.vs (.ty 69) [.ptr 0 0 2, .sl 1 0 0 1 .whole]) ∈ L ∧ (1, Blk.sc (.gty 5) 0 (strS .empty)) ∈ L) by
  obtain ⟨v, σ', n', L', h1, h2, rfl, h3, h4⟩ := h
  exact ⟨σ', 1, h1, (h2.2.mem h3).2, Nat.le_refl _, (h2.2.mem h4).2⟩
 refine WR_fn (a := a42) rfl rfl (entryF _) (entry_E (Nat.le_of_ble_eq_true rfl)) (m := 1) rfl ?_
 refine WP_seq (WP_ops ?_)
 refine WO_mv rfl ?_
 refine WO_bldC (own := false) (copy_BC false) rfl rfl rfl rfl .here (WO_nil ?_)
 refine WP_seq (WP_seq (WP_ops ?_))
 refine WO_mv (v := .s (.int _ _)) rfl ?_
 refine WO_bin (r := .bool _) rfl rfl rfl ?_
 refine WO_nil ?_
 refine WP_cond rfl (fun h => ?_) (fun h => ?_)
 ·simp only [NM] at h; omega
 refine WP_skip ?_
 refine WP_seq (WP_par ?_)
 refine WO_mv rfl ?_
 refine WO_nilckP rfl ?_
 refine WO_fa (o' := 1) rfl rfl rfl ?_
 refine WO_ldV rfl rfl (.head _) rfl ?_
 refine WO_p (v := .s (.int .i64 0)) rfl ?_
 refine WO_mv rfl ?_
 refine WO_nilckP rfl ?_
 refine WO_fa (o' := 1) rfl rfl rfl ?_
 refine WO_ldV rfl rfl (.head _) rfl ?_
 refine WO_p (v := .s (.int .i64 0)) rfl ?_
 refine WO_sub rfl rfl (by omega) ?_
 refine WO_mv (v := .s (.int _ _)) rfl ?_
 refine WO_bin (r := .bool _) rfl rfl rfl ?_
 refine WO_nil ?_
 refine WP_cond rfl (fun h => ?_) (fun h => ?_)
 ·refine WP_ops ?_
  refine WO_mv rfl ?_
  refine WO_mv (v := .s (.int _ _)) rfl ?_
  refine WO_bldN (own := true) (grow_BN (by omega) h1) rfl rfl rfl rfl .here (WO_nil ?_)
  exact ⟨_, RS_nil, rfl, .tail _ (.head _), .head _⟩
 ·simp only [NM] at h; omega
theorem Join_one {md : Md} {q : Nat} {g : Nat → S} {c : Cp} (x sep : ByteArray) (hg : g 0 = .str x) : WR AM 20 [.sl 0 0 1 1 c, .s (.str sep)] [.sc md q g] (fun v _ L => v = .s (.str x) ∧ (0, Blk.sc md q g) ∈ L) := by
 refine WR_fn (a := a20) rfl rfl (entryF _) (entry_E (Nat.le_of_ble_eq_true rfl)) (m := 1) rfl ?_
 refine WP_seq (WP_ops (WO_mv rfl (WO_nil ?_)))
 refine WP_seq (WP_seq (WP_ops ?_))
 refine WO_mv rfl (WO_len rfl (WO_nil ?_))
 refine WP_block (WP_seq (WP_ops ?_))
 refine WO_bin (r := .bool false) rfl rfl rfl (WO_mv rfl (WO_nil ?_))
 refine WP_cond rfl (fun h => by cases h) (fun h => ?_)
 refine WP_seq (WP_ops ?_)
 refine WO_bin (r := .bool true) rfl rfl rfl (WO_mv rfl (WO_nil ?_))
 refine WP_cond rfl (fun h => ?_) (fun h => by cases h)
 refine WP_seq (WP_ops ?_)
 refine WO_mv rfl ?_
 refine WO_ixs rfl rfl (by omega) ?_
 refine WO_ldS rfl rfl (.head _) hg ?_
 refine WO_mv rfl (WO_nil ?_)
 refine WP_ret ?_
 exact ⟨_, RS_tmp rfl RS_nil, rfl, .head _⟩
theorem Join_many {md : Md} {q : Nat} {g : Nat → S} {c : Cp} (X : Nat → ByteArray) (sep : ByteArray) (m : Nat) (hm : 1 ≤ m) (hm2 : m ≤ 140737488355328) (hc : roomC (m + 1) c) (hg : ∀ i, i ≤ m → g i = .str (X i)) (h0 : 0 < (catF X sep m).size) (hT : (catF X sep m).size ≤ 140737488355328) :
  WR AM 20 [.sl 0 0 (m + 1) 1 c, .s (.str sep)] [.sc md q g] (fun v _ L => v = .s (.str (catF X sep m)) ∧ (0, Blk.sc md q g) ∈ L) := by
 have hsz := cat_size X sep m
 have hsm : ∀ i, i ≤ m + 1 → sumF X i + m * sep.size ≤ 140737488355328 := fun i hi => by
  have := sum_le X (show i ≤ m + 1 from hi); omega
 have hms : ((sep.size : Int) * (m : Int)) = ((m * sep.size : Nat) : Int) := by rw [Int.natCast_mul, Int.mul_comm]
 refine WR_fn (a := a20) rfl rfl (entryF _) (entry_E (Nat.le_of_ble_eq_true rfl)) (m := 1) rfl ?_
 refine WP_seq (WP_ops (WO_mv rfl (WO_nil ?_)))
 refine WP_seq (WP_seq (WP_ops ?_))
 refine WO_mv rfl (WO_len rfl (WO_nil ?_))
 refine WP_block (WP_seq (WP_ops ?_))
 refine WO_bin (r := .bool _) rfl rfl rfl (WO_mv rfl (WO_nil ?_))
 refine WP_cond rfl (fun h => ?_) (fun h => ?_)
 ·simp only [NM] at h; omega
 refine WP_seq (WP_ops ?_)
 refine WO_bin (r := .bool _) rfl rfl rfl (WO_mv rfl (WO_nil ?_))
 refine WP_cond rfl (fun h => ?_) (fun h => ?_)
 ·simp only [NM] at h; omega
 refine WP_skip ?_
 refine WP_seq (WP_ops (WO_mv rfl (WO_nil ?_)))
 refine WP_cut (fun f n L => f 0 = .sl 0 0 (m + 1) 1 c ∧ f 1 = .s (.str sep) ∧ f 5 = .s (.int .i64 ((m * sep.size : Nat) : Int)) ∧ L = [(0, .sc md q g)]) ?_ ?_
 ·refine WP_seq (WP_ops ?_)
  refine WO_mv rfl (WO_lenS rfl ?_)
  refine WO_bin (r := .bool _) rfl rfl rfl (WO_nil ?_)
  refine WP_cond rfl (fun h => ?_) (fun h => ?_)
  ·refine WP_seq (WP_seq (WP_ops ?_))
   refine WO_mv rfl (WO_lenS rfl (WO_mv rfl (WO_len rfl ?_)))
   refine WO_sub rfl rfl (by omega) ?_
   refine WO_quo rfl rfl (by omega) ?_
   refine WO_bin (r := .bool _) rfl rfl rfl (WO_nil ?_)
   refine WP_cond rfl (fun h2 => ?_) (fun h2 => ?_)
   ·exfalso
    simp only [NM] at h2
    have h3 : (sep.size : Int) + 1 ≤ 9223372036854775807 / (((m + 1 : Nat) : Int) - 1) := by
     refine Int.le_ediv_of_mul_le (by omega) ?_
     have e : (((m + 1 : Nat) : Int) - 1) = (m : Int) := by omega
     rw [e, Int.add_mul, hms]
     omega
    omega
   refine WP_skip (WP_ops ?_)
   refine WO_mv (v := .s (.int _ _)) rfl (WO_mv rfl (WO_lenS rfl (WO_mv rfl (WO_len rfl ?_))))
   refine WO_sub rfl rfl (by omega) ?_
   have e : (((m + 1 : Nat) : Int) - 1) = (m : Int) := by omega
   rw [e]
   refine WO_mul rfl rfl (by rw [hms]; omega) ?_
   rw [hms]
   refine WO_add rfl rfl (by omega) ?_
   refine WO_mv (v := .s (.int _ _)) rfl (WO_nil ?_)
   exact ⟨_, .refl _, rfl, rfl, by rw [Int.zero_add]; rfl, rfl⟩
  ·refine WP_skip ?_
   simp only [NM] at h
   have : sep.size = 0 := by omega
   exact ⟨_, .refl _, rfl, rfl, by rw [this]; rfl, rfl⟩
 rintro f n L ⟨k0, k1, k5, rfl⟩
 refine WP_know (d := 0) k0 (WP_know (d := 1) k1 (WP_know (d := 5) k5 ?_))
 refine WP_cut (fun f n L => f 0 = .sl 0 0 (m + 1) 1 c ∧ f 1 = .s (.str sep) ∧ f 5 = .s (.int .i64 ((catF X sep m).size : Int)) ∧ L = [(0, .sc md q g)]) ?_ ?_
 ·refine WP_seq (WP_ops ?_)
  refine WO_mv rfl (WO_len rfl (WO_mv rfl (WO_nil ?_)))
  refine WP_block ?_
  refine WP_loop (fun k f _ L => ∃ i : Nat, i ≤ m + 1 ∧ k = m + 1 - i ∧ f 0 = .sl 0 0 (m + 1) 1 c ∧ f 1 = .s (.str sep) ∧ f 5 = .s (.int .i64 ((m * sep.size + sumF X i : Nat) : Int)) ∧ f 39 = .sl 0 0 (m + 1) 1 c ∧ f 40 = .s (.int .i64 ((m + 1 : Nat) : Int)) ∧ f 41 = .s (.int .i64 (i : Int)) ∧ L = [(0, .sc md q g)]) (fun k f nb L hI => ?_) (m + 1) ⟨0, by omega, rfl, rfl, rfl, rfl, rfl, rfl, rfl, rfl⟩
  obtain ⟨i, hi, hk, k0, k1, k5, k39, k40, k41, rfl⟩ := hI
  refine WP_know (d := 0) k0 (WP_know (d := 1) k1 (WP_know (d := 5) k5 (WP_know (d := 39) k39 (WP_know (d := 40) k40 (WP_know (d := 41) k41 ?_)))))
  refine WP_seq (WP_ops ?_)
  refine WO_bin (r := .bool _) rfl rfl rfl (WO_nil ?_)
  refine WP_seq ?_
  refine WP_cond rfl (fun h => ?_) (fun h => ?_)
  ·simp only [NM] at h
   have hi2 : i ≤ m := by omega
   have hb := hsm (i + 1) (by omega)
   simp only [sumF] at hb
   refine WP_skip (WP_seq (WP_block (WP_seq (WP_ops ?_))))
   refine WO_ixs rfl rfl (by omega) ?_
   refine WO_ldS (x := .str (X i)) rfl rfl (.head _) (by rw [show 0 + ((i : Int)).toNat * 1 = i by omega]; exact hg i hi2) ?_
   refine WO_mv rfl (WO_nil ?_)
   refine WP_seq (WP_seq (WP_ops ?_))
   refine WO_mv rfl (WO_lenS rfl (WO_mv (v := .s (.int _ _)) rfl ?_))
   refine WO_sub rfl rfl (by omega) ?_
   refine WO_bin (r := .bool _) rfl rfl rfl (WO_nil ?_)
   refine WP_cond rfl (fun h2 => ?_) (fun h2 => ?_)
   ·simp only [NM] at h2; omega
   refine WP_skip (WP_ops ?_)
   refine WO_mv (v := .s (.int _ _)) rfl (WO_mv rfl (WO_lenS rfl ?_))
   refine WO_add rfl rfl (by omega) ?_
   refine WO_mv (v := .s (.int _ _)) rfl (WO_nil ?_)
   refine WP_ops ?_
   refine WO_add rfl rfl (by omega) ?_
   refine WO_mv (v := .s (.int _ _)) rfl (WO_nil ?_)
   exact ⟨m + 1 - (i + 1), _, by omega, .refl _, i + 1, by omega, rfl, rfl, rfl, by simp only [sumF]; rw [← Nat.add_assoc, Int.natCast_add]; rfl, rfl, rfl, by rw [Int.natCast_add]; rfl, rfl⟩
  ·simp only [NM] at h
   obtain rfl : i = m + 1 := by omega
   refine WP_exit (xhere ?_)
   exact ⟨_, .refl _, rfl, rfl, by rw [hsz, show sumF X (m + 1) + m * sep.size = m * sep.size + sumF X (m + 1) from Nat.add_comm _ _]; rfl, rfl⟩
 rintro f n L ⟨k0, k1, k5, rfl⟩
 refine WP_know (d := 0) k0 (WP_know (d := 1) k1 (WP_know (d := 5) k5 ?_))
 refine WP_seq (WP_ops (WO_alloct (WO_nil ?_)))
 refine WP_seq (WP_ops ?_)
 refine WO_mv (v := .s (.int _ _)) rfl ?_
 refine WO_bldN (own := false) (Grow_BN (n := ((catF X sep m).size : Int)) (by omega) (by omega)) rfl rfl rfl rfl .here (WO_nil ?_)
 refine WP_seq (WP_ops ?_)
 refine WO_mv rfl (WO_ixs rfl rfl (by omega) ?_)
 refine WO_ldS (x := .str (X 0)) rfl rfl (.tail _ (.tail _ (.head _))) (hg 0 (by omega)) ?_
 have hX0 : (X 0).size ≤ 140737488355328 := by
  have := cat_le X sep (show 0 ≤ m by omega)
  simp only [catF] at this
  omega
 refine WO_bldW (write_BW .empty (X 0) (by show 0 + _ ≤ _; omega)) rfl rfl rfl rfl (.there .here) (.head _) .here (WO_nil ?_)
 have e0 : (ByteArray.empty ++ X 0) = X 0 := by simp
 rw [e0]
 refine WP_cut (fun f n L => ∃ b k, f 1 = .s (.str sep) ∧ f 8 = .ptr b 0 2 ∧ L = [(k, .sc (.gty 5) (catF X sep m).size (strS (catF X sep m))), (b, .vs (.ty 69) [.ptr b 0 2, .sl k 0 (catF X sep m).size 1 .whole]), (0, .sc md q g)]) ?_ ?_
 ·refine WP_seq (WP_ops ?_)
  refine WO_mv rfl ?_
  refine WO_slTail rfl rfl (by omega) hc ?_
  refine WO_len rfl (WO_mv rfl (WO_nil ?_))
  refine WP_block ?_
  refine WP_sub (L' := [_, _, _]) (.cons_cons _ (.cons _ (.cons_cons _ (.cons_cons _ .slnil)))) ?_
  refine WP_loop (fun j f _ L => ∃ (i b k : Nat), i ≤ m ∧ j = m - i ∧ f 1 = .s (.str sep) ∧ f 8 = .ptr b 0 2 ∧ f 63 = .sl 0 1 m 1 (tailC c) ∧ f 64 = .s (.int .i64 (m : Int)) ∧ f 65 = .s (.int .i64 (i : Int)) ∧ L = [(k, .sc (.gty 5) (catF X sep i).size (strS (catF X sep i))), (b, .vs (.ty 69) [.ptr b 0 2, .sl k 0 (catF X sep i).size 1 .whole]), (0, .sc md q g)]) (fun j f nb L hI => ?_) m ⟨0, _, _, by omega, rfl, rfl, rfl, rfl, rfl, rfl, rfl⟩
  obtain ⟨i, b, k, hi, hj, k1, k8, k63, k64, k65, rfl⟩ := hI
  refine WP_know (d := 1) k1 ?_
  refine WP_know (d := 8) k8 ?_
  refine WP_know (d := 63) k63 ?_
  refine WP_know (d := 64) k64 ?_
  refine WP_know (d := 65) k65 ?_
  refine WP_seq (WP_ops ?_)
  refine WO_bin (r := .bool _) rfl rfl rfl (WO_nil ?_)
  refine WP_seq ?_
  refine WP_cond rfl (fun h => ?_) (fun h => ?_)
  ·simp only [NM] at h
   have hb := cat_le X sep (show i + 1 ≤ m by omega)
   have hb2 : (catF X sep (i + 1)).size = (catF X sep i).size + sep.size + (X (i + 1)).size := by rw [catF, ByteArray.size_append, ByteArray.size_append]
   refine WP_skip (WP_seq (WP_block (WP_seq (WP_ops ?_))))
   refine WO_ixs rfl rfl (by omega) ?_
   refine WO_ldS (x := .str (X (i + 1))) rfl rfl (.tail _ (.tail _ (.head _))) (by rw [show 1 + ((i : Int)).toNat * 1 = i + 1 by omega]; exact hg (i + 1) (by omega)) ?_
   refine WO_mv rfl (WO_nil ?_)
   refine WP_seq (WP_ops ?_)
   refine WO_mv rfl ?_
   refine WO_bldW (write_BW (catF X sep i) sep (by omega)) rfl rfl rfl rfl (.there .here) (.head _) .here (WO_nil ?_)
   refine WP_ops ?_
   refine WO_mv rfl ?_
   refine WO_bldW (write_BW (catF X sep i ++ sep) (X (i + 1)) (by rw [ByteArray.size_append]; omega)) rfl rfl rfl rfl (.there (.there .here)) (.head _) .here (WO_nil ?_)
   refine WP_ops ?_
   refine WO_add rfl rfl (by omega) ?_
   refine WO_mv (v := .s (.int _ _)) rfl (WO_nil ?_)
   exact ⟨m - (i + 1), _, by omega, .cons_cons _ (.cons _ (.cons _ (.cons_cons _ (.cons_cons _ .slnil)))), i + 1, _, _, by omega, rfl, rfl, rfl, rfl, rfl, by rw [Int.natCast_add]; rfl, rfl⟩
  ·simp only [NM] at h
   obtain rfl : i = m := by omega
   refine WP_exit (xhere ?_)
   exact ⟨_, .refl _, b, k, rfl, rfl, rfl⟩
 rintro f n L ⟨b, k, k1, k8, rfl⟩
 refine WP_know (d := 1) k1 ?_
 refine WP_know (d := 8) k8 ?_
 refine WP_seq (WP_ops ?_)
 refine WO_bldE (str_BE (catF X sep m) (by omega) hT) rfl rfl rfl rfl (.tail _ (.head _)) .here ?_
 refine WO_mv rfl (WO_nil ?_)
 refine WP_ret ?_
 exact ⟨_, RS_tmp rfl RS_nil, rfl, .tail _ (.tail _ (.head _))⟩
end Go.Proofs.YtlaogmemhephnaaGreatDoor
namespace Go.Proofs.YtlaogmemhephnaaGreatDoor
open Go Go.Am
set_option linter.unusedSimpArgs false
set_option linter.unusedVariables false
def ofL (x : Int) : List S := if 0 ≤ x ∧ x < 64 then [.int .i64 (x % 8), .int .i64 (x / 8), .bool true] else [.int .i64 (-1), .int .i64 (-1), .bool false]
theorem of_run (x : Int) : WR AM 43 [.s (.int .i64 x)] [] (fun v _ _ => v = .agg 3 (lc (ofL x))) := by
 refine WR_fn (a := a43) rfl rfl (entryF _) (entry_E (Nat.le_of_ble_eq_true rfl)) (m := 0) rfl ?_
 refine WP_seq ?_
 refine WP_ops ?_
 refine WO_allocL rfl ?_
 refine WO_nil ?_
 refine WP_seq ?_
 refine WP_seq ?_
 refine WP_ops ?_
 refine WO_mv (v := .s (.int _ _)) rfl ?_
 refine WO_bin (r := .bool _) rfl rfl rfl ?_
 refine WO_mv (v := .s (.bool _)) rfl ?_
 refine WO_case (t := 5) rfl (fun h1 => ?_) (fun h1 => ?_)
 ·try simp only [NM] at h1
  refine WO_gf rfl rfl ?_
  refine WO_gf rfl rfl ?_
  refine WO_pick (v := .s (.bool _)) rfl rfl ?_
  refine WO_nil ?_
  refine WP_cond rfl (fun _ => ?_) (fun h => nomatch h)
  refine WP_seq ?_
  refine WP_ops ?_
  refine WO_buildI rfl (.one rfl (.one rfl .nil)) ?_
  refine WO_buildL rfl rfl (.part (v := .agg _ _) (ys := [_, _, _]) rfl rfl rfl rfl .nil) ?_
  refine WO_st (v := .agg _ _) rfl rfl rfl rfl rfl (over_spl (ys := [_, _, _]) rfl rfl) .here ?_
  refine WO_nil ?_
  refine WP_ret ?_
  refine ⟨_, RS_cell rfl rfl (.head _) (RS_nil), ?_⟩
  first | (rw [show ofL x = [.int .i64 (-1), .int .i64 (-1), .bool false] from if_neg (by omega)]; rfl) | (rw [show ofL x = [.int .i64 (x % 8), .int .i64 (x / 8), .bool true] from if_pos (by omega)]; rfl)
 ·try simp only [NM] at h1
  refine WO_gt rfl ?_
  refine WO_mv (v := .s (.int _ _)) rfl ?_
  refine WO_gt rfl ?_
  refine WO_bin (r := .bool _) rfl rfl rfl ?_
  refine WO_pick (v := .s (.bool _)) rfl rfl ?_
  refine WO_nil ?_
  refine WP_cond rfl (fun h2 => ?_) (fun h2 => ?_)
  ·try simp only [NM] at h2
   refine WP_seq ?_
   refine WP_ops ?_
   refine WO_buildI rfl (.one rfl (.one rfl .nil)) ?_
   refine WO_buildL rfl rfl (.part (v := .agg _ _) (ys := [_, _, _]) rfl rfl rfl rfl .nil) ?_
   refine WO_st (v := .agg _ _) rfl rfl rfl rfl rfl (over_spl (ys := [_, _, _]) rfl rfl) .here ?_
   refine WO_nil ?_
   refine WP_ret ?_
   refine ⟨_, RS_cell rfl rfl (.head _) (RS_nil), ?_⟩
   first | (rw [show ofL x = [.int .i64 (-1), .int .i64 (-1), .bool false] from if_neg (by omega)]; rfl) | (rw [show ofL x = [.int .i64 (x % 8), .int .i64 (x / 8), .bool true] from if_pos (by omega)]; rfl)
  ·try simp only [NM] at h2
   refine WP_skip ?_
   refine WP_seq ?_
   refine WP_ops ?_
   refine WO_mv (v := .s (.int _ _)) rfl ?_
   refine WO_rem rfl rfl (by omega) ?_
   refine WO_mv (v := .s (.int _ _)) rfl ?_
   refine WO_quo rfl rfl (by omega) ?_
   refine WO_buildI rfl (.one rfl (.one rfl .nil)) ?_
   refine WO_buildL rfl rfl (.part (v := .agg _ _) (ys := [_, _, _]) rfl rfl rfl rfl (.part (v := .s (.bool _)) (ys := [_, _, _]) rfl rfl rfl rfl .nil)) ?_
   refine WO_st (v := .agg _ _) rfl rfl rfl rfl rfl (over_spl (ys := [_, _, _]) rfl rfl) .here ?_
   refine WO_nil ?_
   refine WP_ret ?_
   refine ⟨_, RS_cell rfl rfl (.head _) (RS_nil), ?_⟩
   first | (rw [show ofL x = [.int .i64 (-1), .int .i64 (-1), .bool false] from if_neg (by omega)]; rfl) | (rw [show ofL x = [.int .i64 (x % 8), .int .i64 (x / 8), .bool true] from if_pos (by omega)]; rfl)
theorem of_in (x : Int) (h : 0 ≤ x ∧ x < 64) : RF AM 43 [.s (.int .i64 x)] (.agg 3 (lc [.int .i64 (x % 8), .int .i64 (x / 8), .bool true])) := by
 have := RF_of (of_run x)
 rw [ofL, if_pos h] at this
 exact this
end Go.Proofs.YtlaogmemhephnaaGreatDoor
