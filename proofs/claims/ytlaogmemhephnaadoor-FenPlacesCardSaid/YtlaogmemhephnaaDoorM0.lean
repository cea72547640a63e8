/- Texts of this seat, joined. -/
import Derived.ProofKit
import Derived.Test.YtlaogmemhephnaaDoorProg
import Derived.KernelRfl
import Derived.Lib.Bytealg
import Derived.Lib.ItoaNum
import Derived.Shelf.LaysM
import Derived.Shelf.Strings.Builder1
import Derived.Shelf.Strings.Builder2
import Derived.Shelf.Small.Strs
import Derived.Shelf.Strconv.Itoa3
import Derived.Shelf.Strings.Search3
import Derived.LoopN
import Derived.Lib.AppendIntMem
import Derived.Lib.SmallJoins
import Derived.Test.YtlaogmemhephnaaDoorTie
import Derived.Lay
import Derived.LaidMore
import Derived.OpenShut
import Derived.Stop.Joined
import Derived.Test.YtlaogmemhephnaaDoorAm0
import Derived.Test.YtlaogmemhephnaaDoorAm1
import Derived.Test.YtlaogmemhephnaaDoorAm2
/- From a run of the abstract machine to what the row asks. -/
namespace Go.Am
open Go Go.RowKit Go.ChangeShapes Go.WideShapes

theorem trodAll_below {H : Type} {enc : TypeId × Value → H} {P : Program} (hl : laidOutB P = true) {W W' : World} (hb : Below W.heap.size W W') : ∀ {ts : List TypeId} {vs : List Value} {ds : List (DataW H)} {ps : List MemPlace},
    DataW.TrodAll enc P W 0 (fun _ => true) true ts vs ds ps → (ts.all fun t => P.readableRec t && decide (t < P.types.size)) = true → (∀ x ∈ ps, x.block < W.heap.size) →
    DataW.TrodAll enc P W' 0 (fun b => decide (b < W.heap.size)) true ts vs ds ps
  | [], [], [], ps, h, _, _ => h
  | t :: ts, v :: vs, d :: ds, ps, h, hr, hlt => by
    obtain ⟨p, q, h1, h2, rfl⟩ := h
    simp only [List.all_cons, Bool.and_eq_true, decide_eq_true_eq] at hr
    exact ⟨p, q, Below.trod hl hr.1.1 hr.1.2 h1 hb (fun x hx => hlt x (List.mem_append.2 (.inl hx))), trodAll_below hl hb h2 hr.2 (fun x hx => hlt x (List.mem_append.2 (.inr hx))), rfl⟩
  | [], [], _ :: _, _, h, _, _ => h.elim
  | [], _ :: _, _, _, h, _, _ => h.elim
  | _ :: _, [], _, _, h, _, _ => h.elim
  | _ :: _, _ :: _, [], _, h, _, _ => h.elim

/-- The arguments, as the abstract machine has them, and the law's run over them. -/
def Opened [Bas] (A : AP) (f : FuncId) (W : World) (args : Array Value) : Prop :=
  ∃ ι σ av σ', RelW ι σ W ∧ Dom ι σ ∧ VRL ι av args.toList ∧ (∀ b, ¬ mutb σ b) ∧ Run A f av σ = some (.s (.bool true), σ')

theorem law_contract [Bas] {H : Type} {enc : TypeId × Value → H} {P : Program} {A : AP} (hr : RunOK P (Run A)) (hl : laidOutB P = true) {f : FuncId} {fn : Func} {s : ChangeSpec} {apart : Bool} {W : World} {args : Array Value} {ds gs : List (DataW H)} {before : List MemPlace} {tb : TypeId}
    (hW : DataW.Whole enc P fn.params.toList s.vars apart W args.toList ds gs before) (hv : s.vars = []) (hs : s.fn H ds = { results := [.lit (.bool true)], args := ds }) (hrt : fn.resultTypes = #[tb]) (htb : P.underlying tb = some .bool)
    (hts : (fn.params.toList.all fun t => P.readableRec t && decide (t < P.types.size)) = true) (ho : Opened A f W args) :
    Calls P f args W fun e W' => ∃ v, e = .returned v ∧ s.post enc P fn apart true false false W args v W' := by
  obtain ⟨ι, σ, av, σ', hR, hD, hvr, hro, hrun⟩ := ho
  have h := law_calls hr hrun hR hD hvr hro
  rw [Array.toArray_toList] at h
  refine h.mono ?_
  rintro e W' ⟨rfl, hb⟩
  refine ⟨_, rfl, ?_⟩
  have hlt := hW.lt
  have hW' := hW
  obtain ⟨p, q, hA, hV, rfl, hfz, hnd⟩ := hW'
  rw [hv] at hV
  have hgs : gs = [] ∧ q = [] := by
    cases gs with
    | nil => exact ⟨rfl, hV⟩
    | cons _ _ => exact hV.elim
  obtain ⟨rfl, rfl⟩ := hgs
  rw [List.append_nil] at hlt
  refine ⟨ds, [], p ++ [], [], p, [], hW, ?_, ?_, ?_, hb.frame _, fun h => nomatch h⟩
  · rw [List.append_nil, hs, hrt]
    exact trodAll_mk1 ⟨1, by simp [DataW.trod, Value.cells, htb]⟩
  · rw [List.append_nil, hs]
    exact trodAll_below hl hb hA hts hlt
  · rw [List.append_nil, hs, hv]
    rfl

theorem vrl2 {ι : Inj} {a b : V} {v0 v1 : Value} (h0 : VR ι a v0) (h1 : VR ι b v1) : VRL ι [a, b] (#[v0, v1] : Array Value).toList := by
  simp only [VRL]; exact ⟨_, _, rfl, h0, _, _, rfl, h1, rfl⟩
/-! ### Opening -/

def flatI (P : Program) (t : TypeId) (n : Nat) : Bool :=
  match P.underlying t with
  | some (.struct _) | some (.array _ _) => P.cellsOf t == n && (match P.cellTypes P.depth t with
    | some ts => ts.all fun u => match P.underlying u with
      | some (.int .i64) => true
      | _ => false
    | none => false)
  | _ => false

def intAt (cs : Array Value) (n : Nat) : Nat → Int := fun i => if i < n then (match cs[i]? with
  | some (.int _ x) => x
  | _ => 0) else 0

def noInj : Inj := fun _ => none
theorem rel_none (W : World) : @RelW ⟨W⟩ noInj [] W := @RelW.mk ⟨W⟩ _ _ _ (fun _ _ h => by simp [noInj] at h) (fun _ _ _ h => by simp [noInj] at h) (fun _ _ _ _ h => by simp [noInj] at h) (fun _ _ h => by simp [noInj] at h) (Nat.le_refl _) (fun _ _ => rfl)
theorem dom_none : Dom noInj [] := fun _ _ h => by simp [noInj] at h
theorem ro_none : ∀ b, ¬ mutb [] b := fun b ⟨x, hx, _⟩ => by simp at hx

end Go.Am
/- Openings: a slice whose elements have some cells each, all whole numbers. -/
namespace Go.Am
open Go Go.RowKit Go.ChangeShapes Go.WideShapes

def intOfV : Option Value → Int
  | some (.int _ x) => x
  | _ => 0

end Go.Am
/- The functions of this seat, as the abstract machine has them: each held against the loaded one by the kernel. -/
namespace Go.Proofs.YtlaogmemhephnaaDoor
open Go Go.Am
set_option maxRecDepth 100000
/-- zugzwang/zugzwanglaw15.FenShows -/
def a3 : AF := ⟨28, [.tmp 2],
 (.seq (.ops [⟨some 1, none, .h (.box (.t 0))⟩,
 ⟨some 2, none, .p (.mv (.k (.s (.bool false))))⟩])
 (.seq (.ops [⟨some 8, none, .h (.load true 133 (.t 1))⟩,
 ⟨some 9, none, .h (.call (.k (.fn 6 [])) [(.t 8)])⟩,
 ⟨some 7, none, .p (.mv (.t 9))⟩,
 ⟨some 10, none, .p (.ext (.t 7) 0)⟩,
 ⟨some 11, none, .p (.ext (.t 7) 1)⟩,
 ⟨some 3, none, .p (.mv (.t 10))⟩,
 ⟨some 4, none, .p (.mv (.t 11))⟩])
 (.seq (.ops [⟨some 13, none, .h (.load true 133 (.t 1))⟩,
 ⟨some 14, none, .h (.call (.k (.fn 7 [])) [(.t 13)])⟩,
 ⟨some 12, none, .p (.mv (.t 14))⟩,
 ⟨some 15, none, .p (.ext (.t 12) 0)⟩,
 ⟨some 16, none, .p (.ext (.t 12) 1)⟩,
 ⟨some 5, none, .p (.mv (.t 15))⟩,
 ⟨some 6, none, .p (.mv (.t 16))⟩])
 (.seq (.ops [⟨some 17, none, .p (.mv (.t 3))⟩,
 ⟨some 18, none, .p (.mv (.t 5))⟩,
 ⟨some 19, none, .p (.bin .eql (.t 17) (.t 18))⟩,
 ⟨some 20, none, .p (.mv (.t 19))⟩,
 ⟨some 21, some (20, true), .p (.mv (.t 4))⟩,
 ⟨some 22, some (20, true), .p (.mv (.t 6))⟩,
 ⟨some 23, some (20, true), .p (.bin .eql (.t 21) (.t 22))⟩,
 ⟨some 24, none, .p (.pick (.t 20) (.t 23) (.k (.s (.bool false))))⟩,
 ⟨some 25, none, .p (.mv (.t 24))⟩,
 ⟨some 26, some (25, true), .h (.call (.k (.fn 8 [])) [])⟩,
 ⟨some 27, none, .p (.pick (.t 25) (.t 26) (.k (.s (.bool false))))⟩,
 ⟨some 2, none, .p (.mv (.t 27))⟩])
 .ret))))⟩
theorem c3 : compF Tryd.prog false Tryd.f3 = some a3 := by kernel_rfl
/-- zugzwang/zugzwanglaw15.FenBack -/
def a4 : AF := ⟨131, [.tmp 6],
 (.seq (.ops [⟨some 3, none, .h (.box (.t 0))⟩,
 ⟨some 4, none, .h (.box (.t 1))⟩,
 ⟨some 6, none, .p (.mv (.k (.s (.bool false))))⟩])
 (.seq (.seq (.ops [⟨some 19, none, .h (.call (.k (.fn 8 [])) [])⟩,
 ⟨some 20, none, .p (.un .not (.t 19))⟩])
 (.cond (.t 20)
 (.seq (.ops [⟨some 6, none, .p (.mv (.k (.s (.bool false))))⟩])
 .ret)
 .skip))
 (.seq (.seq (.ops [⟨some 21, none, .p (.mv (.t 2))⟩,
 ⟨some 22, none, .p (.lenS (.t 21))⟩,
 ⟨some 23, none, .p (.bin .gtr (.t 22) (.k (.s (.int .i64 1000))))⟩])
 (.cond (.t 23)
 (.seq (.ops [⟨some 6, none, .p (.mv (.k (.s (.bool true))))⟩])
 .ret)
 .skip))
 (.seq (.ops [⟨some 25, none, .h (.load true 133 (.t 3))⟩,
 ⟨some 26, none, .h (.call (.k (.fn 6 [])) [(.t 25)])⟩,
 ⟨some 24, none, .p (.mv (.t 26))⟩,
 ⟨some 27, none, .p (.ext (.t 24) 0)⟩,
 ⟨some 28, none, .p (.ext (.t 24) 1)⟩,
 ⟨some 7, none, .p (.mv (.t 27))⟩,
 ⟨some 8, none, .p (.mv (.t 28))⟩])
 (.seq (.ops [⟨some 30, none, .h (.load true 133 (.t 4))⟩,
 ⟨some 31, none, .h (.call (.k (.fn 6 [])) [(.t 30)])⟩,
 ⟨some 29, none, .p (.mv (.t 31))⟩,
 ⟨some 32, none, .p (.ext (.t 29) 0)⟩,
 ⟨some 33, none, .p (.ext (.t 29) 1)⟩,
 ⟨some 9, none, .p (.mv (.t 32))⟩,
 ⟨some 10, none, .p (.mv (.t 33))⟩])
 (.seq (.seq (.ops [⟨some 34, none, .p (.mv (.t 8))⟩,
 ⟨some 35, none, .p (.bin .eql (.t 34) (.k (.s (.int .i64 0))))⟩,
 ⟨some 36, none, .h (.load true 133 (.t 3))⟩,
 ⟨some 37, none, .h (.call (.k (.fn 9 [])) [(.t 36)])⟩,
 ⟨some 38, none, .p (.eqb true (.t 35) (.t 37))⟩,
 ⟨some 39, none, .p (.mv (.t 38))⟩,
 ⟨some 40, some (39, false), .p (.mv (.t 8))⟩,
 ⟨some 41, some (39, false), .p (.bin .neq (.t 40) (.k (.s (.int .i64 0))))⟩,
 ⟨some 42, some (39, false), .p (.mv (.t 41))⟩,
 ⟨some 43, some (42, true), .p (.mv (.t 7))⟩,
 ⟨some 44, some (42, true), .p (.bin .neq (.t 43) (.k (.s (.str ⟨#[]⟩))))⟩,
 ⟨some 45, some (42, true), .p (.mv (.t 44))⟩,
 ⟨some 46, some (45, false), .p (.mv (.t 8))⟩,
 ⟨some 47, some (45, false), .p (.bin .neq (.t 46) (.k (.s (.int .i64 2))))⟩,
 ⟨some 48, some (42, true), .p (.pick (.t 45) (.k (.s (.bool true))) (.t 47))⟩,
 ⟨some 49, some (39, false), .p (.pick (.t 42) (.t 48) (.k (.s (.bool false))))⟩,
 ⟨some 50, none, .p (.pick (.t 39) (.k (.s (.bool true))) (.t 49))⟩])
 (.cond (.t 50)
 (.seq (.ops [⟨some 6, none, .p (.mv (.k (.s (.bool false))))⟩])
 .ret)
 .skip))
 (.seq (.seq (.ops [⟨some 51, none, .p (.mv (.t 8))⟩,
 ⟨some 52, none, .p (.bin .eql (.t 51) (.k (.s (.int .i64 0))))⟩])
 (.cond (.t 52)
 (.seq (.ops [⟨some 54, none, .p (.mv (.t 7))⟩,
 ⟨some 55, none, .h (.call (.k (.fn 10 [])) [(.t 54)])⟩,
 ⟨some 53, none, .p (.mv (.t 55))⟩,
 ⟨some 56, none, .p (.ext (.t 53) 0)⟩,
 ⟨some 57, none, .p (.ext (.t 53) 1)⟩,
 ⟨some 58, none, .p (.ext (.t 53) 2)⟩,
 ⟨some 11, none, .h (.alloc (.ints 133))⟩,
 ⟨none, none, .h (.store 133 (.t 11) (.t 56))⟩,
 ⟨some 12, none, .p (.mv (.t 57))⟩,
 ⟨some 13, none, .p (.mv (.t 58))⟩])
 (.seq (.ops [⟨some 59, none, .p (.mv (.t 13))⟩,
 ⟨some 60, none, .p (.bin .neq (.t 59) (.k (.s (.int .i64 0))))⟩,
 ⟨some 61, none, .p (.mv (.t 60))⟩,
 ⟨some 62, some (61, false), .h (.load true 133 (.t 11))⟩,
 ⟨some 63, some (61, false), .h (.load true 133 (.t 3))⟩,
 ⟨some 64, some (61, false), .p (.eqa true 133 (.t 62) (.t 63))⟩,
 ⟨some 65, none, .p (.pick (.t 61) (.k (.s (.bool true))) (.t 64))⟩,
 ⟨some 66, none, .p (.mv (.t 65))⟩,
 ⟨some 67, some (66, false), .p (.mv (.t 7))⟩,
 ⟨some 68, some (66, false), .p (.lenS (.t 67))⟩,
 ⟨some 69, some (66, false), .p (.bin .gtr (.t 68) (.k (.s (.int .i64 128))))⟩,
 ⟨some 70, none, .p (.pick (.t 66) (.k (.s (.bool true))) (.t 69))⟩])
 (.cond (.t 70)
 (.seq (.ops [⟨some 6, none, .p (.mv (.k (.s (.bool false))))⟩])
 .ret)
 .skip)))
 .skip))
 (.seq (.seq (.ops [⟨some 71, none, .p (.mv (.t 8))⟩,
 ⟨some 72, none, .p (.bin .eql (.t 71) (.k (.s (.int .i64 0))))⟩,
 ⟨some 73, none, .p (.mv (.t 72))⟩,
 ⟨some 74, some (73, true), .p (.mv (.t 10))⟩,
 ⟨some 75, some (73, true), .p (.bin .eql (.t 74) (.k (.s (.int .i64 0))))⟩,
 ⟨some 76, none, .p (.pick (.t 73) (.t 75) (.k (.s (.bool false))))⟩,
 ⟨some 77, none, .p (.mv (.t 76))⟩,
 ⟨some 78, some (77, true), .p (.mv (.t 7))⟩,
 ⟨some 79, some (77, true), .p (.mv (.t 9))⟩,
 ⟨some 80, some (77, true), .p (.bin .eql (.t 78) (.t 79))⟩,
 ⟨some 81, some (77, true), .h (.load true 133 (.t 3))⟩,
 ⟨some 82, some (77, true), .h (.load true 133 (.t 4))⟩,
 ⟨some 83, some (77, true), .p (.eqa false 133 (.t 81) (.t 82))⟩,
 ⟨some 84, some (77, true), .p (.eqb true (.t 80) (.t 83))⟩,
 ⟨some 85, none, .p (.pick (.t 77) (.t 84) (.k (.s (.bool false))))⟩])
 (.cond (.t 85)
 (.seq (.ops [⟨some 6, none, .p (.mv (.k (.s (.bool false))))⟩])
 .ret)
 .skip))
 (.seq (.ops [⟨some 87, none, .p (.mv (.t 2))⟩,
 ⟨some 88, none, .h (.call (.k (.fn 10 [])) [(.t 87)])⟩,
 ⟨some 86, none, .p (.mv (.t 88))⟩,
 ⟨some 89, none, .p (.ext (.t 86) 0)⟩,
 ⟨some 90, none, .p (.ext (.t 86) 1)⟩,
 ⟨some 91, none, .p (.ext (.t 86) 2)⟩,
 ⟨some 14, none, .h (.alloc (.ints 133))⟩,
 ⟨none, none, .h (.store 133 (.t 14) (.t 89))⟩,
 ⟨some 15, none, .p (.mv (.t 90))⟩,
 ⟨some 16, none, .p (.mv (.t 91))⟩])
 (.seq (.seq (.ops [⟨some 92, none, .p (.mv (.t 16))⟩,
 ⟨some 93, none, .p (.bin .neq (.t 92) (.k (.s (.int .i64 0))))⟩])
 (.cond (.t 93)
 (.seq (.ops [⟨some 94, none, .h (.load true 133 (.t 14))⟩,
 ⟨some 95, none, .p (.build (.ints 133) [])⟩,
 ⟨some 96, none, .p (.eqa false 133 (.t 94) (.t 95))⟩,
 ⟨some 97, none, .p (.mv (.t 96))⟩,
 ⟨some 98, some (97, true), .p (.mv (.t 15))⟩,
 ⟨some 99, some (97, true), .p (.bin .geq (.t 98) (.k (.s (.int .i64 0))))⟩,
 ⟨some 100, none, .p (.pick (.t 97) (.t 99) (.k (.s (.bool false))))⟩,
 ⟨some 101, none, .p (.mv (.t 100))⟩,
 ⟨some 102, some (101, true), .p (.mv (.t 15))⟩,
 ⟨some 103, some (101, true), .p (.mv (.t 2))⟩,
 ⟨some 104, some (101, true), .p (.lenS (.t 103))⟩,
 ⟨some 105, some (101, true), .p (.bin .leq (.t 102) (.t 104))⟩,
 ⟨some 106, none, .p (.pick (.t 101) (.t 105) (.k (.s (.bool false))))⟩,
 ⟨some 107, none, .p (.mv (.t 106))⟩,
 ⟨some 108, some (107, true), .p (.mv (.t 16))⟩,
 ⟨some 109, some (107, true), .p (.bin .eql (.t 108) (.k (.s (.int .i64 13))))⟩,
 ⟨some 110, some (107, true), .p (.mv (.t 109))⟩,
 ⟨some 111, some (110, false), .p (.mv (.t 15))⟩,
 ⟨some 112, some (110, false), .p (.bin .eql (.t 111) (.k (.s (.int .i64 0))))⟩,
 ⟨some 113, some (107, true), .p (.pick (.t 110) (.k (.s (.bool true))) (.t 112))⟩,
 ⟨some 114, none, .p (.pick (.t 107) (.t 113) (.k (.s (.bool false))))⟩,
 ⟨some 6, none, .p (.mv (.t 114))⟩])
 .ret)
 .skip))
 (.seq (.ops [⟨some 116, none, .h (.load true 133 (.t 14))⟩,
 ⟨some 117, none, .h (.call (.k (.fn 6 [])) [(.t 116)])⟩,
 ⟨some 115, none, .p (.mv (.t 117))⟩,
 ⟨some 118, none, .p (.ext (.t 115) 0)⟩,
 ⟨some 119, none, .p (.ext (.t 115) 1)⟩,
 ⟨some 17, none, .p (.mv (.t 118))⟩,
 ⟨some 18, none, .p (.mv (.t 119))⟩])
 (.seq (.ops [⟨some 120, none, .p (.mv (.t 18))⟩,
 ⟨some 121, none, .p (.bin .eql (.t 120) (.k (.s (.int .i64 0))))⟩,
 ⟨some 122, none, .p (.mv (.t 121))⟩,
 ⟨some 123, some (122, true), .p (.mv (.t 17))⟩,
 ⟨some 124, some (122, true), .p (.mv (.t 2))⟩,
 ⟨some 125, some (122, true), .p (.bin .eql (.t 123) (.t 124))⟩,
 ⟨some 126, none, .p (.pick (.t 122) (.t 125) (.k (.s (.bool false))))⟩,
 ⟨some 127, none, .p (.mv (.t 126))⟩,
 ⟨some 128, some (127, true), .h (.load true 133 (.t 14))⟩,
 ⟨some 129, some (127, true), .h (.call (.k (.fn 9 [])) [(.t 128)])⟩,
 ⟨some 130, none, .p (.pick (.t 127) (.t 129) (.k (.s (.bool false))))⟩,
 ⟨some 6, none, .p (.mv (.t 130))⟩])
 .ret))))))))))))⟩
theorem c4 : compF Tryd.prog false Tryd.f4 = some a4 := by kernel_rfl
/-- zugzwang/zugzwanglaw15.FenPlaces -/
def a5 : AF := ⟨118, [.tmp 4],
 (.seq (.ops [⟨some 4, none, .p (.mv (.k (.s (.bool false))))⟩])
 (.seq (.seq (.ops [⟨some 18, none, .h (.call (.k (.fn 8 [])) [])⟩,
 ⟨some 19, none, .p (.un .not (.t 18))⟩])
 (.cond (.t 19)
 (.seq (.ops [⟨some 4, none, .p (.mv (.k (.s (.bool false))))⟩])
 .ret)
 .skip))
 (.seq (.seq (.ops [⟨some 20, none, .p (.mv (.t 0))⟩,
 ⟨some 21, none, .p (.lenS (.t 20))⟩,
 ⟨some 22, none, .p (.bin .gtr (.t 21) (.k (.s (.int .i64 128))))⟩])
 (.cond (.t 22)
 (.seq (.ops [⟨some 24, none, .p (.mv (.t 0))⟩,
 ⟨some 25, none, .h (.call (.k (.fn 10 [])) [(.t 24)])⟩,
 ⟨some 23, none, .p (.mv (.t 25))⟩,
 ⟨some 26, none, .p (.ext (.t 23) 0)⟩,
 ⟨some 27, none, .p (.ext (.t 23) 1)⟩,
 ⟨some 28, none, .p (.ext (.t 23) 2)⟩,
 ⟨some 5, none, .h (.alloc (.ints 133))⟩,
 ⟨none, none, .h (.store 133 (.t 5) (.t 26))⟩,
 ⟨some 6, none, .p (.mv (.t 27))⟩,
 ⟨some 7, none, .p (.mv (.t 28))⟩])
 (.seq (.ops [⟨some 29, none, .p (.mv (.t 7))⟩,
 ⟨some 30, none, .p (.bin .eql (.t 29) (.k (.s (.int .i64 3))))⟩,
 ⟨some 31, none, .p (.mv (.t 30))⟩,
 ⟨some 32, some (31, true), .p (.mv (.t 6))⟩,
 ⟨some 33, some (31, true), .p (.bin .eql (.t 32) (.k (.s (.int .i64 0))))⟩,
 ⟨some 34, none, .p (.pick (.t 31) (.t 33) (.k (.s (.bool false))))⟩,
 ⟨some 4, none, .p (.mv (.t 34))⟩])
 .ret))
 .skip))
 (.seq (.ops [⟨some 36, none, .p (.mv (.t 0))⟩,
 ⟨some 37, none, .h (.call (.k (.fn 10 [])) [(.t 36)])⟩,
 ⟨some 35, none, .p (.mv (.t 37))⟩,
 ⟨some 38, none, .p (.ext (.t 35) 0)⟩,
 ⟨some 39, none, .p (.ext (.t 35) 1)⟩,
 ⟨some 40, none, .p (.ext (.t 35) 2)⟩,
 ⟨some 8, none, .h (.alloc (.ints 133))⟩,
 ⟨none, none, .h (.store 133 (.t 8) (.t 38))⟩,
 ⟨some 9, none, .p (.mv (.t 39))⟩,
 ⟨some 10, none, .p (.mv (.t 40))⟩])
 (.seq (.seq (.ops [⟨some 41, none, .p (.mv (.t 10))⟩,
 ⟨some 42, none, .p (.bin .neq (.t 41) (.k (.s (.int .i64 13))))⟩])
 (.cond (.t 42)
 (.seq (.ops [⟨some 43, none, .p (.mv (.t 10))⟩,
 ⟨some 44, none, .p (.bin .eql (.t 43) (.k (.s (.int .i64 0))))⟩,
 ⟨some 45, none, .p (.mv (.t 44))⟩,
 ⟨some 46, some (45, true), .p (.mv (.t 9))⟩,
 ⟨some 47, some (45, true), .p (.bin .eql (.t 46) (.k (.s (.int .i64 0))))⟩,
 ⟨some 48, none, .p (.pick (.t 45) (.t 47) (.k (.s (.bool false))))⟩,
 ⟨some 49, none, .p (.mv (.t 48))⟩,
 ⟨some 50, some (49, false), .p (.mv (.t 10))⟩,
 ⟨some 51, some (49, false), .p (.bin .eql (.t 50) (.k (.s (.int .i64 2))))⟩,
 ⟨some 52, some (49, false), .p (.mv (.t 51))⟩,
 ⟨some 53, some (52, true), .p (.mv (.t 9))⟩,
 ⟨some 54, some (52, true), .p (.bin .eql (.t 53) (.k (.s (.int .i64 0))))⟩,
 ⟨some 55, some (49, false), .p (.pick (.t 52) (.t 54) (.k (.s (.bool false))))⟩,
 ⟨some 56, none, .p (.pick (.t 49) (.k (.s (.bool true))) (.t 55))⟩,
 ⟨some 4, none, .p (.mv (.t 56))⟩])
 .ret)
 .skip))
 (.seq (.ops [⟨some 58, none, .p (.mv (.t 0))⟩,
 ⟨some 59, none, .p (.mv (.t 9))⟩,
 ⟨some 60, none, .p (.slS (.t 58) none (some (.t 59)))⟩,
 ⟨some 61, none, .h (.call (.k (.fn 10 [])) [(.t 60)])⟩,
 ⟨some 57, none, .p (.mv (.t 61))⟩,
 ⟨some 62, none, .p (.ext (.t 57) 0)⟩,
 ⟨some 63, none, .p (.ext (.t 57) 1)⟩,
 ⟨some 64, none, .p (.ext (.t 57) 2)⟩,
 ⟨some 11, none, .h (.alloc (.ints 133))⟩,
 ⟨none, none, .h (.store 133 (.t 11) (.t 62))⟩,
 ⟨some 12, none, .p (.mv (.t 63))⟩,
 ⟨some 13, none, .p (.mv (.t 64))⟩])
 (.seq (.seq (.ops [⟨some 65, none, .p (.mv (.t 13))⟩,
 ⟨some 66, none, .p (.bin .eql (.t 65) (.k (.s (.int .i64 13))))⟩,
 ⟨some 67, none, .p (.mv (.t 66))⟩,
 ⟨some 68, some (67, true), .p (.mv (.t 12))⟩,
 ⟨some 69, some (67, true), .p (.mv (.t 9))⟩,
 ⟨some 70, some (67, true), .p (.bin .neq (.t 68) (.t 69))⟩,
 ⟨some 71, none, .p (.pick (.t 67) (.t 70) (.k (.s (.bool false))))⟩,
 ⟨some 72, none, .p (.mv (.t 71))⟩,
 ⟨some 73, some (72, false), .p (.mv (.t 9))⟩,
 ⟨some 74, some (72, false), .p (.mv (.t 0))⟩,
 ⟨some 75, some (72, false), .p (.lenS (.t 74))⟩,
 ⟨some 76, some (72, false), .p (.bin .lss (.t 73) (.t 75))⟩,
 ⟨some 77, some (72, false), .p (.mv (.t 76))⟩,
 ⟨some 78, some (77, true), .p (.mv (.t 13))⟩,
 ⟨some 79, some (77, true), .p (.bin .neq (.t 78) (.k (.s (.int .i64 13))))⟩,
 ⟨some 80, some (72, false), .p (.pick (.t 77) (.t 79) (.k (.s (.bool false))))⟩,
 ⟨some 81, some (72, false), .p (.mv (.t 80))⟩,
 ⟨some 82, some (81, true), .p (.mv (.t 13))⟩,
 ⟨some 83, some (81, true), .p (.bin .neq (.t 82) (.k (.s (.int .i64 0))))⟩,
 ⟨some 84, some (72, false), .p (.pick (.t 81) (.t 83) (.k (.s (.bool false))))⟩,
 ⟨some 85, some (72, false), .p (.mv (.t 84))⟩,
 ⟨some 86, some (85, true), .p (.mv (.t 13))⟩,
 ⟨some 87, some (85, true), .p (.bin .neq (.t 86) (.k (.s (.int .i64 2))))⟩,
 ⟨some 88, some (72, false), .p (.pick (.t 85) (.t 87) (.k (.s (.bool false))))⟩,
 ⟨some 89, none, .p (.pick (.t 72) (.k (.s (.bool true))) (.t 88))⟩])
 (.cond (.t 89)
 (.seq (.ops [⟨some 4, none, .p (.mv (.k (.s (.bool false))))⟩])
 .ret)
 .skip))
 (.seq (.seq (.ops [⟨some 90, none, .p (.mv (.t 9))⟩,
 ⟨some 91, none, .p (.mv (.t 0))⟩,
 ⟨some 92, none, .p (.lenS (.t 91))⟩,
 ⟨some 93, none, .p (.bin .eql (.t 90) (.t 92))⟩])
 (.cond (.t 93)
 (.seq (.ops [⟨some 94, none, .p (.mv (.t 13))⟩,
 ⟨some 95, none, .p (.bin .eql (.t 94) (.k (.s (.int .i64 13))))⟩,
 ⟨some 4, none, .p (.mv (.t 95))⟩])
 .ret)
 .skip))
 (.seq (.ops [⟨some 96, none, .p (.mv (.t 0))⟩,
 ⟨some 97, none, .p (.mv (.t 9))⟩,
 ⟨some 98, none, .p (.bin .add (.t 97) (.k (.s (.int .i64 1))))⟩,
 ⟨some 99, none, .p (.slS (.t 96) none (some (.t 98)))⟩,
 ⟨some 100, none, .p (.mv (.t 1))⟩,
 ⟨some 101, none, .p (.bin .add (.t 99) (.t 100))⟩,
 ⟨some 14, none, .p (.mv (.t 101))⟩])
 (.seq (.seq (.ops [⟨some 102, none, .p (.mv (.t 14))⟩,
 ⟨some 103, none, .p (.lenS (.t 102))⟩,
 ⟨some 104, none, .p (.bin .gtr (.t 103) (.k (.s (.int .i64 128))))⟩])
 (.cond (.t 104)
 (.seq (.ops [⟨some 4, none, .p (.mv (.k (.s (.bool true))))⟩])
 .ret)
 .skip))
 (.seq (.ops [⟨some 106, none, .p (.mv (.t 14))⟩,
 ⟨some 107, none, .h (.call (.k (.fn 10 [])) [(.t 106)])⟩,
 ⟨some 105, none, .p (.mv (.t 107))⟩,
 ⟨some 108, none, .p (.ext (.t 105) 0)⟩,
 ⟨some 109, none, .p (.ext (.t 105) 1)⟩,
 ⟨some 110, none, .p (.ext (.t 105) 2)⟩,
 ⟨some 15, none, .h (.alloc (.ints 133))⟩,
 ⟨none, none, .h (.store 133 (.t 15) (.t 108))⟩,
 ⟨some 16, none, .p (.mv (.t 109))⟩,
 ⟨some 17, none, .p (.mv (.t 110))⟩])
 (.seq (.ops [⟨some 111, none, .p (.mv (.t 17))⟩,
 ⟨some 112, none, .p (.bin .eql (.t 111) (.k (.s (.int .i64 13))))⟩,
 ⟨some 113, none, .p (.mv (.t 112))⟩,
 ⟨some 114, some (113, true), .p (.mv (.t 16))⟩,
 ⟨some 115, some (113, true), .p (.mv (.t 9))⟩,
 ⟨some 116, some (113, true), .p (.bin .eql (.t 114) (.t 115))⟩,
 ⟨some 117, none, .p (.pick (.t 113) (.t 116) (.k (.s (.bool false))))⟩,
 ⟨some 4, none, .p (.mv (.t 117))⟩])
 .ret))))))))))))⟩
theorem c5 : compF Tryd.prog false Tryd.f5 = some a5 := by kernel_rfl
/-- zugzwang/fen.Show -/
def a6 : AF := ⟨59, [.tmp 2, .tmp 3],
 (.seq (.ops [⟨some 1, none, .h (.box (.t 0))⟩,
 ⟨some 2, none, .p (.mv (.k (.s (.str ⟨#[]⟩))))⟩,
 ⟨some 3, none, .p (.mv (.k (.s (.int .i64 0))))⟩])
 (.seq (.seq (.ops [⟨some 8, none, .h (.load true 133 (.t 1))⟩,
 ⟨some 9, none, .h (.call (.k (.fn 9 [])) [(.t 8)])⟩,
 ⟨some 10, none, .p (.un .not (.t 9))⟩])
 (.cond (.t 10)
 (.seq (.ops [⟨some 2, none, .p (.mv (.k (.s (.str ⟨#[]⟩))))⟩,
 ⟨some 3, none, .p (.mv (.k (.s (.int .i64 2))))⟩])
 .ret)
 .skip))
 (.seq (.ops [⟨some 4, none, .p (.mv (.k .snil))⟩])
 (.seq (.seq (.ops [⟨some 5, none, .p (.mv (.k (.s (.int .i64 7))))⟩])
 (.block 0 (.loop (.seq (.seq (.ops [⟨some 11, none, .p (.mv (.t 5))⟩,
 ⟨some 12, none, .p (.bin .geq (.t 11) (.k (.s (.int .i64 0))))⟩])
 (.cond (.t 12)
 .skip
 (.exit 0)))
 (.seq (.block 1 (.ops [⟨some 15, none, .p (.mv (.t 4))⟩,
 ⟨some 16, none, .h (.load true 133 (.t 1))⟩,
 ⟨some 17, none, .p (.mv (.t 5))⟩,
 ⟨some 18, none, .h (.call (.k (.fn 11 [])) [(.t 16), (.t 17)])⟩,
 ⟨some 19, none, .h (.mksl 1 1 (.one (.s (.str ⟨#[]⟩))) [(0, (.t 18))])⟩,
 ⟨some 20, none, .h (.append 1 16 (.t 15) (.t 19))⟩,
 ⟨some 4, none, .p (.mv (.t 20))⟩]))
 (.ops [⟨some 13, none, .p (.mv (.t 5))⟩,
 ⟨some 14, none, .p (.bin .sub (.t 13) (.k (.s (.int .i64 1))))⟩,
 ⟨some 5, none, .p (.mv (.t 14))⟩]))))))
 (.seq (.ops [⟨some 6, none, .p (.mv (.k (.s (.str ⟨#[]⟩))))⟩])
 (.seq (.seq (.ops [⟨some 21, none, .h (.rng (.k (.s (.str ⟨#[75, 81, 107, 113]⟩))))⟩])
 (.block 2 (.loop (.seq (.ops [⟨some 22, none, .h (.nxt (.t 21))⟩,
 ⟨some 23, none, .p (.ext (.t 22) 0)⟩])
 (.seq (.cond (.t 23)
 .skip
 (.exit 2))
 (.block 3 (.seq (.ops [⟨some 24, none, .p (.ext (.t 22) 1)⟩,
 ⟨some 7, none, .p (.mv (.t 24))⟩])
 (.seq (.ops [⟨some 25, none, .p (.fa 129 1 (.t 1))⟩,
 ⟨some 26, none, .h (.load false 1 (.t 25))⟩,
 ⟨some 27, none, .p (.mv (.t 7))⟩,
 ⟨some 28, none, .p (.bin .shr (.t 26) (.t 27))⟩,
 ⟨some 29, none, .p (.bin .and (.t 28) (.k (.s (.int .i64 1))))⟩,
 ⟨some 30, none, .p (.bin .eql (.t 29) (.k (.s (.int .i64 1))))⟩])
 (.cond (.t 30)
 (.ops [⟨some 31, none, .p (.mv (.t 6))⟩,
 ⟨some 32, none, .p (.mv (.t 7))⟩,
 ⟨some 33, none, .p (.mv (.t 7))⟩,
 ⟨some 34, none, .p (.bin .add (.t 33) (.k (.s (.int .i64 1))))⟩,
 ⟨some 35, none, .p (.slS (.k (.s (.str ⟨#[75, 81, 107, 113]⟩))) (some (.t 32)) (some (.t 34)))⟩,
 ⟨some 36, none, .p (.bin .add (.t 31) (.t 35))⟩,
 ⟨some 6, none, .p (.mv (.t 36))⟩])
 .skip)))))))))
 (.seq (.par [⟨some 37, none, .p (.mv (.t 4))⟩,
 ⟨some 38, none, .h (.callq (.k (.fn 12 [])) [(.t 37), (.k (.s (.str ⟨#[47]⟩)))])⟩,
 ⟨some 39, none, .p (.fa 128 1 (.t 1))⟩,
 ⟨some 40, none, .h (.load false 1 (.t 39))⟩,
 ⟨some 41, none, .p (.fa 128 1 (.t 1))⟩,
 ⟨some 42, none, .h (.load false 1 (.t 41))⟩,
 ⟨some 43, none, .p (.bin .add (.t 42) (.k (.s (.int .i64 1))))⟩,
 ⟨some 44, none, .p (.slS (.k (.s (.str ⟨#[119, 98]⟩))) (some (.t 40)) (some (.t 43)))⟩,
 ⟨some 45, none, .p (.mv (.t 6))⟩,
 ⟨some 46, none, .h (.callq (.k (.fn 13 [])) [(.t 45)])⟩,
 ⟨some 47, none, .p (.fa 130 1 (.t 1))⟩,
 ⟨some 48, none, .h (.load false 1 (.t 47))⟩,
 ⟨some 49, none, .h (.callq (.k (.fn 14 [])) [(.t 48)])⟩,
 ⟨some 50, none, .h (.callq (.k (.fn 13 [])) [(.t 49)])⟩,
 ⟨some 51, none, .p (.fa 131 1 (.t 1))⟩,
 ⟨some 52, none, .h (.load false 1 (.t 51))⟩,
 ⟨some 53, none, .h (.callq (.k (.fn 15 [])) [(.t 52)])⟩,
 ⟨some 54, none, .p (.fa 132 1 (.t 1))⟩,
 ⟨some 55, none, .h (.load false 1 (.t 54))⟩,
 ⟨some 56, none, .h (.callq (.k (.fn 15 [])) [(.t 55)])⟩,
 ⟨some 57, none, .h (.mksl 6 1 (.one (.s (.str ⟨#[]⟩))) [(0, (.t 38)), (1, (.t 44)), (2, (.t 46)), (3, (.t 50)), (4, (.t 53)), (5, (.t 56))])⟩,
 ⟨some 58, none, .h (.call (.k (.fn 12 [])) [(.t 57), (.k (.s (.str ⟨#[32]⟩)))])⟩,
 ⟨some 2, none, .p (.mv (.t 58))⟩,
 ⟨some 3, none, .p (.mv (.k (.s (.int .i64 0))))⟩])
 .ret)))))))⟩
theorem c6 : compF Tryd.prog false Tryd.f6 = some a6 := by kernel_rfl
/-- zugzwang/zugzwanglaw15.awake -/
def a8 : AF := ⟨33, [.tmp 0],
 (.seq (.ops [⟨some 0, none, .p (.mv (.k (.s (.bool false))))⟩])
 (.seq (.ops [⟨some 7, none, .h (.call (.k (.fn 19 [])) [])⟩,
 ⟨some 8, none, .h (.call (.k (.fn 6 [])) [(.t 7)])⟩,
 ⟨some 6, none, .p (.mv (.t 8))⟩,
 ⟨some 9, none, .p (.ext (.t 6) 0)⟩,
 ⟨some 10, none, .p (.ext (.t 6) 1)⟩,
 ⟨some 1, none, .p (.mv (.t 9))⟩,
 ⟨some 2, none, .p (.mv (.t 10))⟩])
 (.seq (.ops [⟨some 12, none, .p (.mv (.t 1))⟩,
 ⟨some 13, none, .h (.call (.k (.fn 10 [])) [(.t 12)])⟩,
 ⟨some 11, none, .p (.mv (.t 13))⟩,
 ⟨some 14, none, .p (.ext (.t 11) 0)⟩,
 ⟨some 15, none, .p (.ext (.t 11) 1)⟩,
 ⟨some 16, none, .p (.ext (.t 11) 2)⟩,
 ⟨some 3, none, .h (.alloc (.ints 133))⟩,
 ⟨none, none, .h (.store 133 (.t 3) (.t 14))⟩,
 ⟨some 4, none, .p (.mv (.t 15))⟩,
 ⟨some 5, none, .p (.mv (.t 16))⟩])
 (.seq (.par [⟨some 17, none, .p (.mv (.t 2))⟩,
 ⟨some 18, none, .p (.bin .eql (.t 17) (.k (.s (.int .i64 0))))⟩,
 ⟨some 19, none, .p (.mv (.t 18))⟩,
 ⟨some 20, some (19, true), .p (.mv (.t 1))⟩,
 ⟨some 21, some (19, true), .h (.call (.k (.fn 20 [])) [])⟩,
 ⟨some 22, some (19, true), .p (.bin .eql (.t 20) (.t 21))⟩,
 ⟨some 23, none, .p (.pick (.t 19) (.t 22) (.k (.s (.bool false))))⟩,
 ⟨some 24, none, .p (.mv (.t 23))⟩,
 ⟨some 25, some (24, true), .p (.mv (.t 5))⟩,
 ⟨some 26, some (24, true), .p (.bin .eql (.t 25) (.k (.s (.int .i64 0))))⟩,
 ⟨some 27, none, .p (.pick (.t 24) (.t 26) (.k (.s (.bool false))))⟩,
 ⟨some 28, none, .p (.mv (.t 27))⟩,
 ⟨some 29, some (28, true), .h (.load true 133 (.t 3))⟩,
 ⟨some 30, some (28, true), .h (.callq (.k (.fn 19 [])) [])⟩,
 ⟨some 31, some (28, true), .p (.eqa false 133 (.t 29) (.t 30))⟩,
 ⟨some 32, none, .p (.pick (.t 28) (.t 31) (.k (.s (.bool false))))⟩,
 ⟨some 0, none, .p (.mv (.t 32))⟩])
 .ret))))⟩
theorem c8 : compF Tryd.prog false Tryd.f8 = some a8 := by kernel_rfl
/-- zugzwang/board.Right -/
def a9 : AF := ⟨36, [.tmp 2],
 (.seq (.ops [⟨some 1, none, .h (.box (.t 0))⟩,
 ⟨some 2, none, .p (.mv (.k (.s (.bool false))))⟩])
 (.seq (.ops [⟨some 4, none, .h (.load true 133 (.t 1))⟩,
 ⟨some 5, none, .p (.build (.ints 133) [(0, 133, (.t 4))])⟩,
 ⟨some 3, none, .h (.alloc (.ints 133))⟩,
 ⟨none, none, .h (.store 133 (.t 3) (.t 5))⟩])
 (.seq (.ops [⟨some 6, none, .h (.load true 133 (.t 3))⟩,
 ⟨some 7, none, .h (.call (.k (.fn 21 [])) [(.t 6)])⟩,
 ⟨some 8, none, .p (.mv (.t 7))⟩,
 ⟨some 9, some (8, true), .h (.load true 133 (.t 3))⟩,
 ⟨some 10, some (8, true), .h (.call (.k (.fn 22 [])) [(.t 9)])⟩,
 ⟨some 11, none, .p (.pick (.t 8) (.t 10) (.k (.s (.bool false))))⟩,
 ⟨some 12, none, .p (.mv (.t 11))⟩,
 ⟨some 13, some (12, true), .h (.load true 133 (.t 3))⟩,
 ⟨some 14, some (12, true), .h (.call (.k (.fn 23 [])) [(.t 13)])⟩,
 ⟨some 15, none, .p (.pick (.t 12) (.t 14) (.k (.s (.bool false))))⟩,
 ⟨some 16, none, .p (.mv (.t 15))⟩,
 ⟨some 17, some (16, true), .p (.fa 131 1 (.t 1))⟩,
 ⟨some 18, some (16, true), .h (.load false 1 (.t 17))⟩,
 ⟨some 19, some (16, true), .p (.bin .geq (.t 18) (.k (.s (.int .i64 0))))⟩,
 ⟨some 20, none, .p (.pick (.t 16) (.t 19) (.k (.s (.bool false))))⟩,
 ⟨some 21, none, .p (.mv (.t 20))⟩,
 ⟨some 22, some (21, true), .p (.fa 131 1 (.t 1))⟩,
 ⟨some 23, some (21, true), .h (.load false 1 (.t 22))⟩,
 ⟨some 24, some (21, true), .p (.bin .leq (.t 23) (.k (.s (.int .i64 1024))))⟩,
 ⟨some 25, none, .p (.pick (.t 21) (.t 24) (.k (.s (.bool false))))⟩,
 ⟨some 26, none, .p (.mv (.t 25))⟩,
 ⟨some 27, some (26, true), .p (.fa 132 1 (.t 1))⟩,
 ⟨some 28, some (26, true), .h (.load false 1 (.t 27))⟩,
 ⟨some 29, some (26, true), .p (.bin .geq (.t 28) (.k (.s (.int .i64 1))))⟩,
 ⟨some 30, none, .p (.pick (.t 26) (.t 29) (.k (.s (.bool false))))⟩,
 ⟨some 31, none, .p (.mv (.t 30))⟩,
 ⟨some 32, some (31, true), .p (.fa 132 1 (.t 1))⟩,
 ⟨some 33, some (31, true), .h (.load false 1 (.t 32))⟩,
 ⟨some 34, some (31, true), .p (.bin .leq (.t 33) (.k (.s (.int .i64 16384))))⟩,
 ⟨some 35, none, .p (.pick (.t 31) (.t 34) (.k (.s (.bool false))))⟩,
 ⟨some 2, none, .p (.mv (.t 35))⟩])
 .ret)))⟩
theorem c9 : compF Tryd.prog false Tryd.f9 = some a9 := by kernel_rfl
/-- zugzwang/fen.Parse -/
def a10 : AF := ⟨28, [.cell 2 true 133, .cell 3 false 1, .cell 4 false 1],
 (.seq (.ops [⟨some 2, none, .h (.alloc (.ints 133))⟩,
 ⟨some 3, none, .h (.alloc (.one (.s (.int .i64 0))))⟩,
 ⟨some 4, none, .h (.alloc (.one (.s (.int .i64 0))))⟩])
 (.seq (.seq (.ops [⟨some 6, none, .p (.mv (.t 0))⟩,
 ⟨some 7, none, .p (.lenS (.t 6))⟩,
 ⟨some 8, none, .p (.bin .gtr (.t 7) (.k (.s (.int .i64 128))))⟩])
 (.cond (.t 8)
 (.seq (.ops [⟨some 9, none, .h (.load true 133 (.t 2))⟩,
 ⟨none, none, .h (.store 133 (.t 2) (.t 9))⟩,
 ⟨none, none, .h (.store 1 (.t 3) (.k (.s (.int .i64 0))))⟩,
 ⟨none, none, .h (.store 1 (.t 4) (.k (.s (.int .i64 3))))⟩])
 .ret)
 .skip))
 (.seq (.ops [⟨some 10, none, .p (.mkfn 24 [(.t 2), (.t 3), (.t 4)])⟩,
 ⟨none, none, .h (.bad)⟩])
 (.seq (.ops [⟨some 11, none, .p (.mv (.t 0))⟩,
 ⟨some 12, none, .p (.build (.scl [(.str ⟨#[]⟩), (.int .i64 0)]) [(0, 1, (.t 11)), (1, 1, (.k (.s (.int .i64 0))))])⟩,
 ⟨some 13, none, .p (.build (.scl [(.str ⟨#[]⟩), (.int .i64 0), (.int .i64 0), (.int .i64 0), (.int .i64 0), (.int .i64 0), (.int .i64 0), (.int .i64 0), (.int .i64 0), (.int .i64 0), (.int .i64 0), (.int .i64 0), (.int .i64 0), (.int .i64 0), (.int .i64 0), (.int .i64 0), (.int .i64 0), (.int .i64 0), (.int .i64 0), (.int .i64 0), (.int .i64 0), (.int .i64 0), (.int .i64 0), (.int .i64 0), (.int .i64 0), (.int .i64 0), (.int .i64 0), (.int .i64 0), (.int .i64 0), (.int .i64 0), (.int .i64 0), (.int .i64 0), (.int .i64 0), (.int .i64 0), (.int .i64 0), (.int .i64 0), (.int .i64 0), (.int .i64 0), (.int .i64 0), (.int .i64 0), (.int .i64 0), (.int .i64 0), (.int .i64 0), (.int .i64 0), (.int .i64 0), (.int .i64 0), (.int .i64 0), (.int .i64 0), (.int .i64 0), (.int .i64 0), (.int .i64 0), (.int .i64 0), (.int .i64 0), (.int .i64 0), (.int .i64 0), (.int .i64 0), (.int .i64 0), (.int .i64 0), (.int .i64 0), (.int .i64 0), (.int .i64 0), (.int .i64 0), (.int .i64 0), (.int .i64 0), (.int .i64 0), (.int .i64 0), (.int .i64 0), (.int .i64 0), (.int .i64 0), (.int .i64 0), (.int .i64 0), (.int .i64 0), (.int .i64 0), (.int .i64 0), (.int .i64 0), (.int .i64 0), (.int .i64 0), (.int .i64 0), (.int .i64 0), (.int .i64 0), (.int .i64 0), (.int .i64 0), (.int .i64 0), (.int .i64 0), (.int .i64 0), (.int .i64 0), (.int .i64 0), (.int .i64 0), (.int .i64 0), (.int .i64 0), (.int .i64 0), (.int .i64 0), (.int .i64 0), (.int .i64 0), (.int .i64 0), (.int .i64 0), (.int .i64 0), (.int .i64 0), (.int .i64 0), (.int .i64 0), (.int .i64 0), (.int .i64 0), (.int .i64 0), (.int .i64 0), (.int .i64 0), (.int .i64 0), (.int .i64 0), (.int .i64 0), (.int .i64 0), (.int .i64 0), (.int .i64 0), (.int .i64 0), (.int .i64 0), (.int .i64 0), (.int .i64 0), (.int .i64 0), (.int .i64 0), (.int .i64 0), (.int .i64 0), (.int .i64 0), (.int .i64 0), (.int .i64 0), (.int .i64 0), (.int .i64 0), (.int .i64 0), (.int .i64 0), (.int .i64 0), (.int .i64 0), (.int .i64 0), (.int .i64 0), (.int .i64 0), (.int .i64 0), (.int .i64 0), (.int .i64 0), (.int .i64 0)]) [(0, 2, (.t 12))])⟩,
 ⟨some 14, none, .h (.box (.t 13))⟩,
 ⟨some 5, none, .p (.mv (.t 14))⟩])
 (.seq (.ops [⟨some 15, none, .p (.mv (.t 5))⟩,
 ⟨some 16, none, .h (.call (.k (.fn 25 [])) [(.t 15)])⟩])
 (.seq (.seq (.ops [⟨some 17, none, .p (.mv (.t 5))⟩,
 ⟨some 18, none, .p (.nilck (.t 17))⟩,
 ⟨some 19, none, .p (.fa 2 133 (.t 18))⟩,
 ⟨some 20, none, .h (.load true 133 (.t 19))⟩,
 ⟨some 21, none, .h (.call (.k (.fn 9 [])) [(.t 20)])⟩,
 ⟨some 22, none, .p (.un .not (.t 21))⟩])
 (.cond (.t 22)
 (.seq (.ops [⟨some 23, none, .h (.load true 133 (.t 2))⟩,
 ⟨none, none, .h (.store 133 (.t 2) (.t 23))⟩,
 ⟨none, none, .h (.store 1 (.t 3) (.k (.s (.int .i64 0))))⟩,
 ⟨none, none, .h (.store 1 (.t 4) (.k (.s (.int .i64 2))))⟩])
 .ret)
 .skip))
 (.seq (.ops [⟨some 24, none, .p (.mv (.t 5))⟩,
 ⟨some 25, none, .p (.nilck (.t 24))⟩,
 ⟨some 26, none, .p (.fa 2 133 (.t 25))⟩,
 ⟨some 27, none, .h (.load true 133 (.t 26))⟩,
 ⟨none, none, .h (.store 133 (.t 2) (.t 27))⟩,
 ⟨none, none, .h (.store 1 (.t 3) (.k (.s (.int .i64 0))))⟩,
 ⟨none, none, .h (.store 1 (.t 4) (.k (.s (.int .i64 0))))⟩])
 .ret)))))))⟩
theorem c10 : compF Tryd.prog false Tryd.f10 = some a10 := by kernel_rfl
/-- zugzwang/fen.rank -/
def a11 : AF := ⟨47, [.tmp 4],
 (.seq (.ops [⟨some 2, none, .h (.box (.t 0))⟩,
 ⟨some 4, none, .p (.mv (.k (.s (.str ⟨#[]⟩))))⟩])
 (.seq (.ops [⟨some 5, none, .h (.alloct 59 [.pnil, .snil])⟩])
 (.seq (.seq (.ops [⟨some 6, none, .p (.mv (.k (.s (.int .i64 0))))⟩])
 (.block 0 (.loop (.seq (.seq (.ops [⟨some 8, none, .p (.mv (.t 6))⟩,
 ⟨some 9, none, .p (.bin .lss (.t 8) (.k (.s (.int .i64 8))))⟩])
 (.cond (.t 9)
 .skip
 (.exit 0)))
 (.block 1 (.seq (.ops [⟨some 7, none, .p (.mv (.k (.s (.int .i64 0))))⟩])
 (.seq (.block 2 (.loop (.seq (.seq (.ops [⟨some 10, none, .p (.mv (.t 6))⟩,
 ⟨some 11, none, .p (.mv (.t 7))⟩,
 ⟨some 12, none, .p (.bin .add (.t 10) (.t 11))⟩,
 ⟨some 13, none, .p (.bin .lss (.t 12) (.k (.s (.int .i64 8))))⟩,
 ⟨some 14, none, .p (.mv (.t 13))⟩,
 ⟨some 15, some (14, true), .p (.mv (.t 6))⟩,
 ⟨some 16, some (14, true), .p (.mv (.t 7))⟩,
 ⟨some 17, some (14, true), .p (.bin .add (.t 15) (.t 16))⟩,
 ⟨some 18, some (14, true), .p (.mv (.t 1))⟩,
 ⟨some 19, some (14, true), .h (.call (.k (.fn 26 [])) [(.t 17), (.t 18)])⟩,
 ⟨some 20, some (14, true), .p (.fa 0 128 (.t 2))⟩,
 ⟨some 21, some (14, true), .p (.ixa 64 2 (.t 20) (.t 19))⟩,
 ⟨some 22, some (14, true), .h (.load true 2 (.t 21))⟩,
 ⟨some 23, some (14, true), .p (.build (.ints 2) [])⟩,
 ⟨some 24, some (14, true), .p (.eqa false 2 (.t 22) (.t 23))⟩,
 ⟨some 25, none, .p (.pick (.t 14) (.t 24) (.k (.s (.bool false))))⟩])
 (.cond (.t 25)
 .skip
 (.exit 2)))
 (.block 3 (.ops [⟨some 26, none, .p (.mv (.t 7))⟩,
 ⟨some 27, none, .p (.bin .add (.t 26) (.k (.s (.int .i64 1))))⟩,
 ⟨some 7, none, .p (.mv (.t 27))⟩])))))
 (.seq (.seq (.ops [⟨some 28, none, .p (.mv (.t 7))⟩,
 ⟨some 29, none, .p (.bin .gtr (.t 28) (.k (.s (.int .i64 0))))⟩])
 (.cond (.t 29)
 (.seq (.ops [⟨some 30, none, .p (.mv (.t 7))⟩,
 ⟨some 31, none, .h (.call (.k (.fn 15 [])) [(.t 30)])⟩,
 ⟨some 32, none, .h (.call (.k (.fn 27 [])) [(.t 5), (.t 31)])⟩])
 (.seq (.ops [⟨some 33, none, .p (.mv (.t 6))⟩,
 ⟨some 34, none, .p (.mv (.t 7))⟩,
 ⟨some 35, none, .p (.bin .add (.t 33) (.t 34))⟩,
 ⟨some 6, none, .p (.mv (.t 35))⟩])
 (.exit 1)))
 .skip))
 (.seq (.ops [⟨some 36, none, .p (.mv (.t 6))⟩,
 ⟨some 37, none, .p (.mv (.t 1))⟩,
 ⟨some 38, none, .h (.call (.k (.fn 26 [])) [(.t 36), (.t 37)])⟩,
 ⟨some 39, none, .p (.fa 0 128 (.t 2))⟩,
 ⟨some 40, none, .p (.ixa 64 2 (.t 39) (.t 38))⟩,
 ⟨some 41, none, .h (.load true 2 (.t 40))⟩,
 ⟨some 42, none, .h (.call (.k (.fn 28 [])) [(.t 41)])⟩,
 ⟨some 43, none, .h (.call (.k (.fn 27 [])) [(.t 5), (.t 42)])⟩])
 (.ops [⟨some 44, none, .p (.mv (.t 6))⟩,
 ⟨some 45, none, .p (.bin .add (.t 44) (.k (.s (.int .i64 1))))⟩,
 ⟨some 6, none, .p (.mv (.t 45))⟩]))))))))))
 (.seq (.ops [⟨some 46, none, .h (.call (.k (.fn 29 [])) [(.t 5)])⟩,
 ⟨some 4, none, .p (.mv (.t 46))⟩])
 .ret))))⟩
theorem c11 : compF Tryd.prog false Tryd.f11 = some a11 := by kernel_rfl
/-- strings.Join -/
def a12 : AF := ⟨75, [.tmp 4],
 (.seq (.ops [⟨some 4, none, .p (.mv (.k (.s (.str ⟨#[]⟩))))⟩])
 (.seq (.seq (.ops [⟨some 11, none, .p (.mv (.t 0))⟩,
 ⟨some 12, none, .p (.len (.t 11))⟩])
 (.block 0 (.seq (.ops [⟨some 14, none, .p (.bin .eql (.t 12) (.k (.s (.int .i64 0))))⟩,
 ⟨some 13, none, .p (.mv (.t 14))⟩])
 (.cond (.t 13)
 (.seq (.ops [⟨some 4, none, .p (.mv (.k (.s (.str ⟨#[]⟩))))⟩])
 .ret)
 (.seq (.ops [⟨some 16, none, .p (.bin .eql (.t 12) (.k (.s (.int .i64 1))))⟩,
 ⟨some 15, none, .p (.mv (.t 16))⟩])
 (.cond (.t 15)
 (.seq (.ops [⟨some 17, none, .p (.mv (.t 0))⟩,
 ⟨some 18, none, .p (.ixs 1 (.t 17) (.k (.s (.int .i64 0))))⟩,
 ⟨some 19, none, .h (.load false 1 (.t 18))⟩,
 ⟨some 4, none, .p (.mv (.t 19))⟩])
 .ret)
 .skip))))))
 (.seq (.ops [⟨some 5, none, .p (.mv (.k (.s (.int .i64 0))))⟩])
 (.seq (.seq (.ops [⟨some 20, none, .p (.mv (.t 1))⟩,
 ⟨some 21, none, .p (.lenS (.t 20))⟩,
 ⟨some 22, none, .p (.bin .gtr (.t 21) (.k (.s (.int .i64 0))))⟩])
 (.cond (.t 22)
 (.seq (.seq (.ops [⟨some 23, none, .p (.mv (.t 1))⟩,
 ⟨some 24, none, .p (.lenS (.t 23))⟩,
 ⟨some 25, none, .p (.mv (.t 0))⟩,
 ⟨some 26, none, .p (.len (.t 25))⟩,
 ⟨some 27, none, .p (.bin .sub (.t 26) (.k (.s (.int .i64 1))))⟩,
 ⟨some 28, none, .p (.bin .quo (.k (.s (.int .i64 9223372036854775807))) (.t 27))⟩,
 ⟨some 29, none, .p (.bin .geq (.t 24) (.t 28))⟩])
 (.cond (.t 29)
 (.ops [⟨some 30, none, .p (.mkif 9 (.k (.s (.str ⟨#[115, 116, 114, 105, 110, 103, 115, 58, 32, 74, 111, 105, 110, 32, 111, 117, 116, 112, 117, 116, 32, 108, 101, 110, 103, 116, 104, 32, 111, 118, 101, 114, 102, 108, 111, 119]⟩))))⟩,
 ⟨none, none, .h (.pnc (.t 30))⟩])
 .skip))
 (.ops [⟨some 31, none, .p (.mv (.t 5))⟩,
 ⟨some 32, none, .p (.mv (.t 1))⟩,
 ⟨some 33, none, .p (.lenS (.t 32))⟩,
 ⟨some 34, none, .p (.mv (.t 0))⟩,
 ⟨some 35, none, .p (.len (.t 34))⟩,
 ⟨some 36, none, .p (.bin .sub (.t 35) (.k (.s (.int .i64 1))))⟩,
 ⟨some 37, none, .p (.bin .mul (.t 33) (.t 36))⟩,
 ⟨some 38, none, .p (.bin .add (.t 31) (.t 37))⟩,
 ⟨some 5, none, .p (.mv (.t 38))⟩]))
 .skip))
 (.seq (.seq (.ops [⟨some 39, none, .p (.mv (.t 0))⟩,
 ⟨some 40, none, .p (.len (.t 39))⟩,
 ⟨some 41, none, .p (.mv (.k (.s (.int .i64 0))))⟩])
 (.block 1 (.loop (.seq (.ops [⟨some 42, none, .p (.bin .lss (.t 41) (.t 40))⟩])
 (.seq (.cond (.t 42)
 .skip
 (.exit 1))
 (.seq (.block 2 (.seq (.ops [⟨some 43, none, .p (.ixs 1 (.t 39) (.t 41))⟩,
 ⟨some 44, none, .h (.load false 1 (.t 43))⟩,
 ⟨some 7, none, .p (.mv (.t 44))⟩])
 (.seq (.seq (.ops [⟨some 45, none, .p (.mv (.t 7))⟩,
 ⟨some 46, none, .p (.lenS (.t 45))⟩,
 ⟨some 47, none, .p (.mv (.t 5))⟩,
 ⟨some 48, none, .p (.bin .sub (.k (.s (.int .i64 9223372036854775807))) (.t 47))⟩,
 ⟨some 49, none, .p (.bin .gtr (.t 46) (.t 48))⟩])
 (.cond (.t 49)
 (.ops [⟨some 50, none, .p (.mkif 9 (.k (.s (.str ⟨#[115, 116, 114, 105, 110, 103, 115, 58, 32, 74, 111, 105, 110, 32, 111, 117, 116, 112, 117, 116, 32, 108, 101, 110, 103, 116, 104, 32, 111, 118, 101, 114, 102, 108, 111, 119]⟩))))⟩,
 ⟨none, none, .h (.pnc (.t 50))⟩])
 .skip))
 (.ops [⟨some 51, none, .p (.mv (.t 5))⟩,
 ⟨some 52, none, .p (.mv (.t 7))⟩,
 ⟨some 53, none, .p (.lenS (.t 52))⟩,
 ⟨some 54, none, .p (.bin .add (.t 51) (.t 53))⟩,
 ⟨some 5, none, .p (.mv (.t 54))⟩]))))
 (.ops [⟨some 55, none, .p (.bin .add (.t 41) (.k (.s (.int .i64 1))))⟩,
 ⟨some 41, none, .p (.mv (.t 55))⟩])))))))
 (.seq (.ops [⟨some 8, none, .h (.alloct 59 [.pnil, .snil])⟩])
 (.seq (.ops [⟨some 56, none, .p (.mv (.t 5))⟩,
 ⟨some 57, none, .h (.call (.k (.fn 30 [])) [(.t 8), (.t 56)])⟩])
 (.seq (.ops [⟨some 58, none, .p (.mv (.t 0))⟩,
 ⟨some 59, none, .p (.ixs 1 (.t 58) (.k (.s (.int .i64 0))))⟩,
 ⟨some 60, none, .h (.load false 1 (.t 59))⟩,
 ⟨some 61, none, .h (.call (.k (.fn 27 [])) [(.t 8), (.t 60)])⟩])
 (.seq (.seq (.ops [⟨some 62, none, .p (.mv (.t 0))⟩,
 ⟨some 63, none, .p (.slV 1 (.t 62) (some (.k (.s (.int .i64 1)))) none)⟩,
 ⟨some 64, none, .p (.len (.t 63))⟩,
 ⟨some 65, none, .p (.mv (.k (.s (.int .i64 0))))⟩])
 (.block 3 (.loop (.seq (.ops [⟨some 66, none, .p (.bin .lss (.t 65) (.t 64))⟩])
 (.seq (.cond (.t 66)
 .skip
 (.exit 3))
 (.seq (.block 4 (.seq (.ops [⟨some 67, none, .p (.ixs 1 (.t 63) (.t 65))⟩,
 ⟨some 68, none, .h (.load false 1 (.t 67))⟩,
 ⟨some 10, none, .p (.mv (.t 68))⟩])
 (.seq (.ops [⟨some 69, none, .p (.mv (.t 1))⟩,
 ⟨some 70, none, .h (.call (.k (.fn 27 [])) [(.t 8), (.t 69)])⟩])
 (.ops [⟨some 71, none, .p (.mv (.t 10))⟩,
 ⟨some 72, none, .h (.call (.k (.fn 27 [])) [(.t 8), (.t 71)])⟩]))))
 (.ops [⟨some 73, none, .p (.bin .add (.t 65) (.k (.s (.int .i64 1))))⟩,
 ⟨some 65, none, .p (.mv (.t 73))⟩])))))))
 (.seq (.ops [⟨some 74, none, .h (.call (.k (.fn 29 [])) [(.t 8)])⟩,
 ⟨some 4, none, .p (.mv (.t 74))⟩])
 .ret))))))))))⟩
theorem c12 : compF Tryd.prog false Tryd.f12 = some a12 := by kernel_rfl
/-- zugzwang/fen.or -/
def a13 : AF := ⟨6, [.tmp 2],
 (.seq (.ops [⟨some 2, none, .p (.mv (.k (.s (.str ⟨#[]⟩))))⟩])
 (.seq (.seq (.ops [⟨some 3, none, .p (.mv (.t 0))⟩,
 ⟨some 4, none, .p (.bin .eql (.t 3) (.k (.s (.str ⟨#[]⟩))))⟩])
 (.cond (.t 4)
 (.seq (.ops [⟨some 2, none, .p (.mv (.k (.s (.str ⟨#[45]⟩))))⟩])
 .ret)
 .skip))
 (.seq (.ops [⟨some 5, none, .p (.mv (.t 0))⟩,
 ⟨some 2, none, .p (.mv (.t 5))⟩])
 .ret)))⟩
theorem c13 : compF Tryd.prog false Tryd.f13 = some a13 := by kernel_rfl
/-- zugzwang/square.Name -/
def a14 : AF := ⟨26, [.tmp 2],
 (.seq (.ops [⟨some 2, none, .p (.mv (.k (.s (.str ⟨#[]⟩))))⟩])
 (.seq (.ops [⟨some 4, none, .p (.mv (.t 0))⟩,
 ⟨some 5, none, .h (.call (.k (.fn 31 [])) [(.t 4)])⟩,
 ⟨some 3, none, .h (.alloc (.scl [(.int .i64 0), (.int .i64 0), (.bool false)]))⟩,
 ⟨none, none, .h (.store 3 (.t 3) (.t 5))⟩])
 (.seq (.seq (.ops [⟨some 6, none, .p (.fa 2 1 (.t 3))⟩,
 ⟨some 7, none, .h (.load false 1 (.t 6))⟩,
 ⟨some 8, none, .p (.un .not (.t 7))⟩])
 (.cond (.t 8)
 (.seq (.ops [⟨some 2, none, .p (.mv (.k (.s (.str ⟨#[]⟩))))⟩])
 .ret)
 .skip))
 (.seq (.par [⟨some 9, none, .p (.fa 0 2 (.t 3))⟩,
 ⟨some 10, none, .p (.fa 0 1 (.t 9))⟩,
 ⟨some 11, none, .h (.load false 1 (.t 10))⟩,
 ⟨some 12, none, .p (.fa 0 2 (.t 3))⟩,
 ⟨some 13, none, .p (.fa 0 1 (.t 12))⟩,
 ⟨some 14, none, .h (.load false 1 (.t 13))⟩,
 ⟨some 15, none, .p (.bin .add (.t 14) (.k (.s (.int .i64 1))))⟩,
 ⟨some 16, none, .p (.slS (.k (.s (.str ⟨#[97, 98, 99, 100, 101, 102, 103, 104]⟩))) (some (.t 11)) (some (.t 15)))⟩,
 ⟨some 17, none, .p (.fa 0 2 (.t 3))⟩,
 ⟨some 18, none, .p (.fa 1 1 (.t 17))⟩,
 ⟨some 19, none, .h (.load false 1 (.t 18))⟩,
 ⟨some 20, none, .p (.fa 0 2 (.t 3))⟩,
 ⟨some 21, none, .p (.fa 1 1 (.t 20))⟩,
 ⟨some 22, none, .h (.load false 1 (.t 21))⟩,
 ⟨some 23, none, .p (.bin .add (.t 22) (.k (.s (.int .i64 1))))⟩,
 ⟨some 24, none, .p (.slS (.k (.s (.str ⟨#[49, 50, 51, 52, 53, 54, 55, 56]⟩))) (some (.t 19)) (some (.t 23)))⟩,
 ⟨some 25, none, .p (.bin .add (.t 16) (.t 24))⟩,
 ⟨some 2, none, .p (.mv (.t 25))⟩])
 .ret))))⟩
theorem c14 : compF Tryd.prog false Tryd.f14 = some a14 := by kernel_rfl
/-- zugzwang/zugzwangref06.Start -/
def a19 : AF := ⟨39, [.cell 0 true 133],
 (.seq (.ops [⟨some 0, none, .h (.alloc (.ints 133))⟩])
 (.seq (.ops [⟨some 4, none, .h (.call (.k (.fn 37 [])) [])⟩,
 ⟨some 1, none, .h (.alloc (.ints 133))⟩,
 ⟨none, none, .h (.store 133 (.t 1) (.t 4))⟩])
 (.seq (.ops [⟨some 5, none, .h (.mksl 8 1 (.one (.s (.int .i64 0))) [(0, (.k (.s (.int .i64 4)))), (1, (.k (.s (.int .i64 2)))), (2, (.k (.s (.int .i64 3)))), (3, (.k (.s (.int .i64 5)))), (4, (.k (.s (.int .i64 6)))), (5, (.k (.s (.int .i64 3)))), (6, (.k (.s (.int .i64 2)))), (7, (.k (.s (.int .i64 4))))])⟩,
 ⟨some 2, none, .p (.mv (.t 5))⟩])
 (.seq (.seq (.ops [⟨some 3, none, .p (.mv (.k (.s (.int .i64 0))))⟩])
 (.block 0 (.loop (.seq (.seq (.ops [⟨some 6, none, .p (.mv (.t 3))⟩,
 ⟨some 7, none, .p (.bin .lss (.t 6) (.k (.s (.int .i64 8))))⟩])
 (.cond (.t 7)
 .skip
 (.exit 0)))
 (.seq (.block 1 (.seq (.ops [⟨some 10, none, .p (.mv (.t 3))⟩,
 ⟨some 11, none, .p (.mv (.t 2))⟩,
 ⟨some 12, none, .p (.mv (.t 3))⟩,
 ⟨some 13, none, .p (.ixs 1 (.t 11) (.t 12))⟩,
 ⟨some 14, none, .h (.load false 1 (.t 13))⟩,
 ⟨some 15, none, .p (.build (.ints 2) [(0, 1, (.t 14)), (1, 1, (.k (.s (.int .i64 0))))])⟩,
 ⟨some 16, none, .p (.fa 0 128 (.t 1))⟩,
 ⟨some 17, none, .p (.ixa 64 2 (.t 16) (.t 10))⟩,
 ⟨none, none, .h (.store 2 (.t 17) (.t 15))⟩])
 (.seq (.ops [⟨some 18, none, .p (.mv (.t 3))⟩,
 ⟨some 19, none, .p (.bin .add (.k (.s (.int .i64 8))) (.t 18))⟩,
 ⟨some 20, none, .p (.build (.ints 2) [(0, 1, (.k (.s (.int .i64 1)))), (1, 1, (.k (.s (.int .i64 0))))])⟩,
 ⟨some 21, none, .p (.fa 0 128 (.t 1))⟩,
 ⟨some 22, none, .p (.ixa 64 2 (.t 21) (.t 19))⟩,
 ⟨none, none, .h (.store 2 (.t 22) (.t 20))⟩])
 (.seq (.ops [⟨some 23, none, .p (.mv (.t 3))⟩,
 ⟨some 24, none, .p (.bin .add (.k (.s (.int .i64 48))) (.t 23))⟩,
 ⟨some 25, none, .p (.build (.ints 2) [(0, 1, (.k (.s (.int .i64 1)))), (1, 1, (.k (.s (.int .i64 1))))])⟩,
 ⟨some 26, none, .p (.fa 0 128 (.t 1))⟩,
 ⟨some 27, none, .p (.ixa 64 2 (.t 26) (.t 24))⟩,
 ⟨none, none, .h (.store 2 (.t 27) (.t 25))⟩])
 (.ops [⟨some 28, none, .p (.mv (.t 3))⟩,
 ⟨some 29, none, .p (.bin .add (.k (.s (.int .i64 56))) (.t 28))⟩,
 ⟨some 30, none, .p (.mv (.t 2))⟩,
 ⟨some 31, none, .p (.mv (.t 3))⟩,
 ⟨some 32, none, .p (.ixs 1 (.t 30) (.t 31))⟩,
 ⟨some 33, none, .h (.load false 1 (.t 32))⟩,
 ⟨some 34, none, .p (.build (.ints 2) [(0, 1, (.t 33)), (1, 1, (.k (.s (.int .i64 1))))])⟩,
 ⟨some 35, none, .p (.fa 0 128 (.t 1))⟩,
 ⟨some 36, none, .p (.ixa 64 2 (.t 35) (.t 29))⟩,
 ⟨none, none, .h (.store 2 (.t 36) (.t 34))⟩])))))
 (.ops [⟨some 8, none, .p (.mv (.t 3))⟩,
 ⟨some 9, none, .p (.bin .add (.t 8) (.k (.s (.int .i64 1))))⟩,
 ⟨some 3, none, .p (.mv (.t 9))⟩]))))))
 (.seq (.ops [⟨some 37, none, .p (.fa 129 1 (.t 1))⟩,
 ⟨none, none, .h (.store 1 (.t 37) (.k (.s (.int .i64 15))))⟩])
 (.seq (.ops [⟨some 38, none, .h (.load true 133 (.t 1))⟩,
 ⟨none, none, .h (.store 133 (.t 0) (.t 38))⟩])
 .ret))))))⟩
theorem c19 : compF Tryd.prog false Tryd.f19 = some a19 := by kernel_rfl
/-- zugzwang/zugzwanglaw15.begin -/
def a20 : AF := ⟨1, [.tmp 0],
 (.seq (.ops [⟨some 0, none, .p (.mv (.k (.s (.str ⟨#[]⟩))))⟩])
 (.seq (.ops [⟨some 0, none, .p (.mv (.k (.s (.str ⟨#[114, 110, 98, 113, 107, 98, 110, 114, 47, 112, 112, 112, 112, 112, 112, 112, 112, 47, 56, 47, 56, 47, 56, 47, 56, 47, 80, 80, 80, 80, 80, 80, 80, 80, 47, 82, 78, 66, 81, 75, 66, 78, 82, 32, 119, 32, 75, 81, 107, 113, 32, 45, 32, 48, 32, 49]⟩))))⟩])
 .ret))⟩
theorem c20 : compF Tryd.prog false Tryd.f20 = some a20 := by kernel_rfl
/-- (zugzwang/board.checker).pieces -/
def a21 : AF := ⟨61, [.tmp 2],
 (.seq (.ops [⟨some 1, none, .h (.box (.t 0))⟩,
 ⟨some 2, none, .p (.mv (.k (.s (.bool false))))⟩])
 (.seq (.ops [⟨some 3, none, .h (.alloc (.ints 2))⟩])
 (.seq (.seq (.ops [⟨some 7, none, .p (.fa 0 133 (.t 1))⟩,
 ⟨some 8, none, .p (.fa 0 128 (.t 7))⟩,
 ⟨some 9, none, .h (.load true 128 (.t 8))⟩,
 ⟨some 10, none, .p (.mv (.k (.s (.int .i64 0))))⟩])
 (.block 0 (.loop (.seq (.ops [⟨some 11, none, .p (.bin .lss (.t 10) (.k (.s (.int .i64 64))))⟩])
 (.seq (.cond (.t 11)
 .skip
 (.exit 0))
 (.seq (.block 1 (.seq (.ops [⟨some 12, none, .p (.mv (.t 10))⟩,
 ⟨some 13, none, .p (.ix 64 2 true (.t 9) (.t 10))⟩,
 ⟨some 5, none, .h (.alloc (.ints 2))⟩,
 ⟨some 4, none, .p (.mv (.t 12))⟩,
 ⟨none, none, .h (.store 2 (.t 5) (.t 13))⟩])
 (.seq (.seq (.ops [⟨some 14, none, .h (.load true 2 (.t 5))⟩,
 ⟨some 15, none, .p (.build (.ints 2) [])⟩,
 ⟨some 16, none, .p (.eqa false 2 (.t 14) (.t 15))⟩])
 (.cond (.t 16)
 (.exit 1)
 .skip))
 (.seq (.ops [⟨some 17, none, .p (.mv (.t 4))⟩,
 ⟨some 18, none, .h (.call (.k (.fn 38 [])) [(.t 17)])⟩,
 ⟨some 19, none, .p (.bin .eql (.t 18) (.k (.s (.int .i64 0))))⟩,
 ⟨some 20, none, .p (.mv (.t 19))⟩,
 ⟨some 21, some (20, false), .p (.mv (.t 4))⟩,
 ⟨some 22, some (20, false), .h (.call (.k (.fn 38 [])) [(.t 21)])⟩,
 ⟨some 23, some (20, false), .p (.bin .eql (.t 22) (.k (.s (.int .i64 7))))⟩,
 ⟨some 24, none, .p (.pick (.t 20) (.k (.s (.bool true))) (.t 23))⟩,
 ⟨some 6, none, .p (.mv (.t 24))⟩])
 (.seq (.seq (.ops [⟨some 25, none, .h (.load true 2 (.t 5))⟩,
 ⟨some 26, none, .h (.call (.k (.fn 39 [])) [(.t 25)])⟩,
 ⟨some 27, none, .p (.un .not (.t 26))⟩,
 ⟨some 28, none, .p (.mv (.t 27))⟩,
 ⟨some 29, some (28, false), .p (.mv (.t 6))⟩,
 ⟨some 30, some (28, false), .p (.mv (.t 29))⟩,
 ⟨some 31, some (30, true), .p (.fa 0 1 (.t 5))⟩,
 ⟨some 32, some (30, true), .h (.load false 1 (.t 31))⟩,
 ⟨some 33, some (30, true), .p (.bin .eql (.t 32) (.k (.s (.int .i64 1))))⟩,
 ⟨some 34, some (28, false), .p (.pick (.t 30) (.t 33) (.k (.s (.bool false))))⟩,
 ⟨some 35, none, .p (.pick (.t 28) (.k (.s (.bool true))) (.t 34))⟩])
 (.cond (.t 35)
 (.seq (.ops [⟨some 2, none, .p (.mv (.k (.s (.bool false))))⟩])
 .ret)
 .skip))
 (.seq (.ops [⟨some 36, none, .p (.fa 0 1 (.t 5))⟩,
 ⟨some 37, none, .h (.load false 1 (.t 36))⟩,
 ⟨some 38, none, .p (.bin .eql (.t 37) (.k (.s (.int .i64 6))))⟩])
 (.cond (.t 38)
 (.ops [⟨some 39, none, .p (.fa 1 1 (.t 5))⟩,
 ⟨some 40, none, .h (.load false 1 (.t 39))⟩,
 ⟨some 41, none, .p (.ixa 2 1 (.t 3) (.t 40))⟩,
 ⟨some 42, none, .h (.load false 1 (.t 41))⟩,
 ⟨some 43, none, .p (.bin .add (.t 42) (.k (.s (.int .i64 1))))⟩,
 ⟨some 44, none, .p (.ixa 2 1 (.t 3) (.t 40))⟩,
 ⟨none, none, .h (.store 1 (.t 44) (.t 43))⟩])
 .skip)))))))
 (.ops [⟨some 45, none, .p (.bin .add (.t 10) (.k (.s (.int .i64 1))))⟩,
 ⟨some 10, none, .p (.mv (.t 45))⟩])))))))
 (.seq (.ops [⟨some 46, none, .h (.load true 2 (.t 3))⟩,
 ⟨some 47, none, .p (.build (.ints 2) [(0, 1, (.k (.s (.int .i64 1)))), (1, 1, (.k (.s (.int .i64 1))))])⟩,
 ⟨some 48, none, .p (.eqa false 2 (.t 46) (.t 47))⟩,
 ⟨some 49, none, .p (.mv (.t 48))⟩,
 ⟨some 50, some (49, true), .p (.fa 0 133 (.t 1))⟩,
 ⟨some 51, some (49, true), .p (.fa 128 1 (.t 50))⟩,
 ⟨some 52, some (49, true), .h (.load false 1 (.t 51))⟩,
 ⟨some 53, some (49, true), .p (.bin .eql (.t 52) (.k (.s (.int .i64 0))))⟩,
 ⟨some 54, some (49, true), .p (.mv (.t 53))⟩,
 ⟨some 55, some (54, false), .p (.fa 0 133 (.t 1))⟩,
 ⟨some 56, some (54, false), .p (.fa 128 1 (.t 55))⟩,
 ⟨some 57, some (54, false), .h (.load false 1 (.t 56))⟩,
 ⟨some 58, some (54, false), .p (.bin .eql (.t 57) (.k (.s (.int .i64 1))))⟩,
 ⟨some 59, some (49, true), .p (.pick (.t 54) (.k (.s (.bool true))) (.t 58))⟩,
 ⟨some 60, none, .p (.pick (.t 49) (.t 59) (.k (.s (.bool false))))⟩,
 ⟨some 2, none, .p (.mv (.t 60))⟩])
 .ret))))⟩
theorem c21 : compF Tryd.prog false Tryd.f21 = some a21 := by kernel_rfl
/-- (zugzwang/board.checker).castles -/
def a22 : AF := ⟨46, [.tmp 2],
 (.seq (.ops [⟨some 1, none, .h (.box (.t 0))⟩,
 ⟨some 2, none, .p (.mv (.k (.s (.bool false))))⟩])
 (.seq (.seq (.ops [⟨some 6, none, .p (.fa 0 133 (.t 1))⟩,
 ⟨some 7, none, .p (.fa 129 1 (.t 6))⟩,
 ⟨some 8, none, .h (.load false 1 (.t 7))⟩,
 ⟨some 9, none, .p (.bin .lss (.t 8) (.k (.s (.int .i64 0))))⟩,
 ⟨some 10, none, .p (.mv (.t 9))⟩,
 ⟨some 11, some (10, false), .p (.fa 0 133 (.t 1))⟩,
 ⟨some 12, some (10, false), .p (.fa 129 1 (.t 11))⟩,
 ⟨some 13, some (10, false), .h (.load false 1 (.t 12))⟩,
 ⟨some 14, some (10, false), .p (.bin .gtr (.t 13) (.k (.s (.int .i64 15))))⟩,
 ⟨some 15, none, .p (.pick (.t 10) (.k (.s (.bool true))) (.t 14))⟩])
 (.cond (.t 15)
 (.seq (.ops [⟨some 2, none, .p (.mv (.k (.s (.bool false))))⟩])
 .ret)
 .skip))
 (.seq (.seq (.ops [⟨some 16, none, .p (.build (.ints 4) [(0, 1, (.k (.s (.int .i64 7)))), (1, 1, (.k (.s (.int .i64 0)))), (2, 1, (.k (.s (.int .i64 63)))), (3, 1, (.k (.s (.int .i64 56))))])⟩,
 ⟨some 17, none, .p (.mv (.k (.s (.int .i64 0))))⟩])
 (.block 0 (.loop (.seq (.ops [⟨some 18, none, .p (.bin .lss (.t 17) (.k (.s (.int .i64 4))))⟩])
 (.seq (.cond (.t 18)
 .skip
 (.exit 0))
 (.seq (.block 1 (.seq (.ops [⟨some 19, none, .p (.mv (.t 17))⟩,
 ⟨some 20, none, .p (.ix 4 1 false (.t 16) (.t 17))⟩,
 ⟨some 3, none, .p (.mv (.t 19))⟩,
 ⟨some 4, none, .p (.mv (.t 20))⟩])
 (.seq (.seq (.ops [⟨some 21, none, .p (.fa 0 133 (.t 1))⟩,
 ⟨some 22, none, .p (.fa 129 1 (.t 21))⟩,
 ⟨some 23, none, .h (.load false 1 (.t 22))⟩,
 ⟨some 24, none, .p (.mv (.t 3))⟩,
 ⟨some 25, none, .p (.bin .shr (.t 23) (.t 24))⟩,
 ⟨some 26, none, .p (.bin .and (.t 25) (.k (.s (.int .i64 1))))⟩,
 ⟨some 27, none, .p (.bin .eql (.t 26) (.k (.s (.int .i64 0))))⟩])
 (.cond (.t 27)
 (.exit 1)
 .skip))
 (.seq (.ops [⟨some 28, none, .p (.mv (.t 3))⟩,
 ⟨some 29, none, .p (.bin .quo (.t 28) (.k (.s (.int .i64 2))))⟩,
 ⟨some 5, none, .p (.mv (.t 29))⟩])
 (.seq (.ops [⟨some 30, none, .h (.load true 133 (.t 1))⟩,
 ⟨some 31, none, .p (.mv (.t 5))⟩,
 ⟨some 32, none, .p (.mv (.t 4))⟩,
 ⟨some 33, none, .h (.call (.k (.fn 40 [])) [(.t 30), (.k (.s (.int .i64 4))), (.t 31), (.t 32)])⟩,
 ⟨some 34, none, .p (.un .not (.t 33))⟩,
 ⟨some 35, none, .p (.mv (.t 34))⟩,
 ⟨some 36, some (35, false), .h (.load true 133 (.t 1))⟩,
 ⟨some 37, some (35, false), .p (.mv (.t 5))⟩,
 ⟨some 38, some (35, false), .p (.mv (.t 4))⟩,
 ⟨some 39, some (35, false), .p (.bin .quo (.t 38) (.k (.s (.int .i64 8))))⟩,
 ⟨some 40, some (35, false), .p (.bin .mul (.t 39) (.k (.s (.int .i64 8))))⟩,
 ⟨some 41, some (35, false), .p (.bin .add (.t 40) (.k (.s (.int .i64 4))))⟩,
 ⟨some 42, some (35, false), .h (.call (.k (.fn 40 [])) [(.t 36), (.k (.s (.int .i64 6))), (.t 37), (.t 41)])⟩,
 ⟨some 43, some (35, false), .p (.un .not (.t 42))⟩,
 ⟨some 44, none, .p (.pick (.t 35) (.k (.s (.bool true))) (.t 43))⟩])
 (.cond (.t 44)
 (.seq (.ops [⟨some 2, none, .p (.mv (.k (.s (.bool false))))⟩])
 .ret)
 .skip))))))
 (.ops [⟨some 45, none, .p (.bin .add (.t 17) (.k (.s (.int .i64 1))))⟩,
 ⟨some 17, none, .p (.mv (.t 45))⟩])))))))
 (.seq (.ops [⟨some 2, none, .p (.mv (.k (.s (.bool true))))⟩])
 .ret))))⟩
theorem c22 : compF Tryd.prog false Tryd.f22 = some a22 := by kernel_rfl
/-- (zugzwang/board.checker).over -/
def a23 : AF := ⟨55, [.tmp 2],
 (.seq (.ops [⟨some 1, none, .h (.box (.t 0))⟩,
 ⟨some 2, none, .p (.mv (.k (.s (.bool false))))⟩])
 (.seq (.seq (.ops [⟨some 6, none, .p (.fa 0 133 (.t 1))⟩,
 ⟨some 7, none, .p (.fa 130 1 (.t 6))⟩,
 ⟨some 8, none, .h (.load false 1 (.t 7))⟩,
 ⟨some 9, none, .p (.bin .eql (.t 8) (.k (.s (.int .i64 (-1)))))⟩])
 (.cond (.t 9)
 (.seq (.ops [⟨some 2, none, .p (.mv (.k (.s (.bool true))))⟩])
 .ret)
 .skip))
 (.seq (.ops [⟨some 3, none, .p (.mv (.k (.s (.int .i64 5))))⟩,
 ⟨some 4, none, .p (.mv (.k (.s (.int .i64 1))))⟩])
 (.seq (.seq (.ops [⟨some 10, none, .p (.fa 0 133 (.t 1))⟩,
 ⟨some 11, none, .p (.fa 128 1 (.t 10))⟩,
 ⟨some 12, none, .h (.load false 1 (.t 11))⟩,
 ⟨some 13, none, .p (.bin .eql (.t 12) (.k (.s (.int .i64 1))))⟩])
 (.cond (.t 13)
 (.ops [⟨some 3, none, .p (.mv (.k (.s (.int .i64 2))))⟩,
 ⟨some 4, none, .p (.mv (.k (.s (.int .i64 (-1)))))⟩])
 .skip))
 (.seq (.seq (.ops [⟨some 14, none, .p (.fa 0 133 (.t 1))⟩,
 ⟨some 15, none, .p (.fa 130 1 (.t 14))⟩,
 ⟨some 16, none, .h (.load false 1 (.t 15))⟩,
 ⟨some 17, none, .h (.call (.k (.fn 38 [])) [(.t 16)])⟩,
 ⟨some 18, none, .p (.mv (.t 3))⟩,
 ⟨some 19, none, .p (.bin .neq (.t 17) (.t 18))⟩,
 ⟨some 20, none, .p (.mv (.t 19))⟩,
 ⟨some 21, some (20, false), .p (.fa 0 133 (.t 1))⟩,
 ⟨some 22, some (20, false), .p (.fa 131 1 (.t 21))⟩,
 ⟨some 23, some (20, false), .h (.load false 1 (.t 22))⟩,
 ⟨some 24, some (20, false), .p (.bin .neq (.t 23) (.k (.s (.int .i64 0))))⟩,
 ⟨some 25, none, .p (.pick (.t 20) (.k (.s (.bool true))) (.t 24))⟩])
 (.cond (.t 25)
 (.seq (.ops [⟨some 2, none, .p (.mv (.k (.s (.bool false))))⟩])
 .ret)
 .skip))
 (.seq (.ops [⟨some 26, none, .p (.mkfn 41 [(.t 1)])⟩,
 ⟨some 5, none, .p (.mv (.t 26))⟩])
 (.seq (.par [⟨some 27, none, .p (.mv (.t 5))⟩,
 ⟨some 28, none, .p (.fa 0 133 (.t 1))⟩,
 ⟨some 29, none, .p (.fa 130 1 (.t 28))⟩,
 ⟨some 30, none, .h (.load false 1 (.t 29))⟩,
 ⟨some 31, none, .h (.call (.t 27) [(.t 30)])⟩,
 ⟨some 32, none, .p (.mv (.t 31))⟩,
 ⟨some 33, some (32, true), .p (.mv (.t 5))⟩,
 ⟨some 34, some (32, true), .p (.fa 0 133 (.t 1))⟩,
 ⟨some 35, some (32, true), .p (.fa 130 1 (.t 34))⟩,
 ⟨some 36, some (32, true), .h (.load false 1 (.t 35))⟩,
 ⟨some 37, some (32, true), .p (.mv (.t 4))⟩,
 ⟨some 38, some (32, true), .h (.call (.k (.fn 42 [])) [(.t 36), (.k (.s (.int .i64 0))), (.t 37)])⟩,
 ⟨some 39, some (32, true), .h (.call (.t 33) [(.t 38)])⟩,
 ⟨some 40, none, .p (.pick (.t 32) (.t 39) (.k (.s (.bool false))))⟩,
 ⟨some 41, none, .p (.mv (.t 40))⟩,
 ⟨some 42, some (41, true), .h (.load true 133 (.t 1))⟩,
 ⟨some 43, some (41, true), .p (.fa 0 133 (.t 1))⟩,
 ⟨some 44, some (41, true), .p (.fa 128 1 (.t 43))⟩,
 ⟨some 45, some (41, true), .h (.load false 1 (.t 44))⟩,
 ⟨some 46, some (41, true), .h (.callq (.k (.fn 43 [])) [(.t 45)])⟩,
 ⟨some 47, some (41, true), .p (.fa 0 133 (.t 1))⟩,
 ⟨some 48, some (41, true), .p (.fa 130 1 (.t 47))⟩,
 ⟨some 49, some (41, true), .h (.load false 1 (.t 48))⟩,
 ⟨some 50, some (41, true), .p (.mv (.t 4))⟩,
 ⟨some 51, some (41, true), .p (.un .neg (.t 50))⟩,
 ⟨some 52, some (41, true), .h (.callq (.k (.fn 42 [])) [(.t 49), (.k (.s (.int .i64 0))), (.t 51)])⟩,
 ⟨some 53, some (41, true), .h (.call (.k (.fn 40 [])) [(.t 42), (.k (.s (.int .i64 1))), (.t 46), (.t 52)])⟩,
 ⟨some 54, none, .p (.pick (.t 41) (.t 53) (.k (.s (.bool false))))⟩,
 ⟨some 2, none, .p (.mv (.t 54))⟩])
 .ret)))))))⟩
theorem c23 : compF Tryd.prog false Tryd.f23 = some a23 := by kernel_rfl
/-- (*zugzwang/fen.reader).all -/
def a25 : AF := ⟨58, [],
 (.seq (.ops [⟨some 1, none, .h (.box (.t 0))⟩])
 (.seq (.ops [⟨some 7, none, .h (.call (.k (.fn 44 [])) [])⟩,
 ⟨some 2, none, .p (.mv (.t 7))⟩])
 (.seq (.seq (.ops [⟨some 3, none, .p (.mv (.k (.s (.int .i64 7))))⟩])
 (.block 0 (.loop (.seq (.seq (.ops [⟨some 8, none, .p (.mv (.t 3))⟩,
 ⟨some 9, none, .p (.bin .geq (.t 8) (.k (.s (.int .i64 0))))⟩])
 (.cond (.t 9)
 .skip
 (.exit 0)))
 (.seq (.block 1 (.seq (.ops [⟨some 12, none, .h (.load false 1 (.t 1))⟩,
 ⟨some 13, none, .p (.mv (.t 3))⟩,
 ⟨some 14, none, .p (.mv (.t 2))⟩,
 ⟨some 15, none, .h (.call (.k (.fn 45 [])) [(.t 12), (.t 13), (.t 14)])⟩])
 (.seq (.ops [⟨some 16, none, .p (.mv (.t 3))⟩,
 ⟨some 17, none, .p (.bin .gtr (.t 16) (.k (.s (.int .i64 0))))⟩])
 (.cond (.t 17)
 (.ops [⟨some 18, none, .h (.load false 1 (.t 1))⟩,
 ⟨some 19, none, .h (.mksl 1 1 (.one (.s (.str ⟨#[]⟩))) [(0, (.k (.s (.str ⟨#[47]⟩))))])⟩,
 ⟨some 20, none, .h (.call (.k (.fn 46 [])) [(.t 18), (.t 19)])⟩])
 .skip))))
 (.ops [⟨some 10, none, .p (.mv (.t 3))⟩,
 ⟨some 11, none, .p (.bin .sub (.t 10) (.k (.s (.int .i64 1))))⟩,
 ⟨some 3, none, .p (.mv (.t 11))⟩]))))))
 (.seq (.ops [⟨some 21, none, .p (.mkfn 47 [(.t 1)])⟩,
 ⟨some 22, none, .h (.load false 1 (.t 1))⟩,
 ⟨some 23, none, .p (.mkb 49 (.t 22))⟩,
 ⟨some 24, none, .h (.load false 1 (.t 1))⟩,
 ⟨some 25, none, .p (.mkb 50 (.t 24))⟩,
 ⟨some 26, none, .p (.mkfn 51 [(.t 1)])⟩,
 ⟨some 27, none, .p (.mkfn 53 [(.t 1)])⟩,
 ⟨some 28, none, .p (.build (.vl [.fnil, .fnil, .fnil, .fnil, .fnil]) [(0, 1, (.t 21)), (1, 1, (.t 23)), (2, 1, (.t 25)), (3, 1, (.t 26)), (4, 1, (.t 27))])⟩,
 ⟨some 4, none, .h (.alloct 87 [.fnil, .fnil, .fnil, .fnil, .fnil])⟩,
 ⟨none, none, .h (.store 5 (.t 4) (.t 28))⟩])
 (.seq (.seq (.ops [⟨some 29, none, .h (.load true 5 (.t 4))⟩,
 ⟨some 30, none, .p (.mv (.k (.s (.int .i64 0))))⟩])
 (.block 2 (.loop (.seq (.ops [⟨some 31, none, .p (.bin .lss (.t 30) (.k (.s (.int .i64 5))))⟩])
 (.seq (.cond (.t 31)
 .skip
 (.exit 2))
 (.seq (.block 3 (.seq (.ops [⟨some 32, none, .p (.ix 5 1 false (.t 29) (.t 30))⟩,
 ⟨some 6, none, .p (.mv (.t 32))⟩])
 (.seq (.ops [⟨some 33, none, .h (.load false 1 (.t 1))⟩,
 ⟨some 34, none, .h (.mksl 1 1 (.one (.s (.str ⟨#[]⟩))) [(0, (.k (.s (.str ⟨#[32]⟩))))])⟩,
 ⟨some 35, none, .h (.call (.k (.fn 46 [])) [(.t 33), (.t 34)])⟩])
 (.ops [⟨some 36, none, .p (.mv (.t 6))⟩,
 ⟨some 37, none, .h (.call (.t 36) [])⟩]))))
 (.ops [⟨some 38, none, .p (.bin .add (.t 30) (.k (.s (.int .i64 1))))⟩,
 ⟨some 30, none, .p (.mv (.t 38))⟩])))))))
 (.seq (.par [⟨some 39, none, .h (.load false 1 (.t 1))⟩,
 ⟨some 40, none, .p (.nilck (.t 39))⟩,
 ⟨some 41, none, .p (.fa 0 2 (.t 40))⟩,
 ⟨some 42, none, .p (.fa 1 1 (.t 41))⟩,
 ⟨some 43, none, .h (.load false 1 (.t 42))⟩,
 ⟨some 44, none, .h (.load false 1 (.t 1))⟩,
 ⟨some 45, none, .p (.nilck (.t 44))⟩,
 ⟨some 46, none, .p (.fa 0 2 (.t 45))⟩,
 ⟨some 47, none, .p (.fa 0 1 (.t 46))⟩,
 ⟨some 48, none, .h (.load false 1 (.t 47))⟩,
 ⟨some 49, none, .p (.lenS (.t 48))⟩,
 ⟨some 50, none, .p (.bin .lss (.t 43) (.t 49))⟩])
 (.cond (.t 50)
 (.ops [⟨some 51, none, .h (.load false 1 (.t 1))⟩,
 ⟨some 52, none, .p (.nilck (.t 51))⟩,
 ⟨some 53, none, .p (.fa 0 2 (.t 52))⟩,
 ⟨some 54, none, .p (.fa 1 1 (.t 53))⟩,
 ⟨some 55, none, .h (.load false 1 (.t 54))⟩,
 ⟨some 56, none, .p (.build (.ints 1) [(0, 1, (.t 55))])⟩,
 ⟨some 57, none, .p (.mkif 49 (.t 56))⟩,
 ⟨none, none, .h (.pnc (.t 57))⟩])
 .skip)))))))⟩
theorem c25 : compF Tryd.prog false Tryd.f25 = some a25 := by kernel_rfl
/-- zugzwang/square.At -/
def a26 : AF := ⟨9, [.tmp 4],
 (.seq (.ops [⟨some 4, none, .p (.mv (.k (.s (.int .i64 0))))⟩])
 (.seq (.ops [⟨some 5, none, .p (.mv (.t 0))⟩,
 ⟨some 6, none, .p (.mv (.t 1))⟩,
 ⟨some 7, none, .p (.build (.ints 2) [(0, 1, (.t 5)), (1, 1, (.t 6))])⟩,
 ⟨some 8, none, .h (.call (.k (.fn 54 [])) [(.t 7)])⟩,
 ⟨some 4, none, .p (.mv (.t 8))⟩])
 .ret))⟩
theorem c26 : compF Tryd.prog false Tryd.f26 = some a26 := by kernel_rfl
/-- (*strings.Builder).WriteString -/
def a27 : AF := ⟨19, [.tmp 4, .tmp 5],
 (.seq (.ops [⟨some 4, none, .p (.mv (.k (.s (.int .i64 0))))⟩,
 ⟨some 5, none, .p (.mv (.k .inil))⟩])
 (.seq (.ops [⟨some 6, none, .p (.mv (.t 0))⟩,
 ⟨some 7, none, .h (.call (.k (.fn 55 [])) [(.t 6)])⟩])
 (.seq (.ops [⟨some 8, none, .p (.mv (.t 0))⟩,
 ⟨some 9, none, .p (.mv (.t 0))⟩,
 ⟨some 10, none, .p (.nilck (.t 9))⟩,
 ⟨some 11, none, .p (.fa 1 1 (.t 10))⟩,
 ⟨some 12, none, .h (.load false 1 (.t 11))⟩,
 ⟨some 13, none, .p (.mv (.t 1))⟩,
 ⟨some 14, none, .h (.appendb 5 1 (.t 12) (.t 13))⟩,
 ⟨some 15, none, .p (.nilck (.t 8))⟩,
 ⟨some 16, none, .p (.fa 1 1 (.t 15))⟩,
 ⟨none, none, .h (.store 1 (.t 16) (.t 14))⟩])
 (.seq (.ops [⟨some 17, none, .p (.mv (.t 1))⟩,
 ⟨some 18, none, .p (.lenS (.t 17))⟩,
 ⟨some 4, none, .p (.mv (.t 18))⟩,
 ⟨some 5, none, .p (.mv (.k .inil))⟩])
 .ret))))⟩
theorem c27 : compF Tryd.prog false Tryd.f27 = some a27 := by kernel_rfl
/-- zugzwang/fen.letter -/
def a28 : AF := ⟨16, [.tmp 2],
 (.seq (.ops [⟨some 1, none, .h (.box (.t 0))⟩,
 ⟨some 2, none, .p (.mv (.k (.s (.str ⟨#[]⟩))))⟩])
 (.seq (.ops [⟨some 4, none, .p (.fa 0 1 (.t 1))⟩,
 ⟨some 5, none, .h (.load false 1 (.t 4))⟩,
 ⟨some 6, none, .p (.fa 0 1 (.t 1))⟩,
 ⟨some 7, none, .h (.load false 1 (.t 6))⟩,
 ⟨some 8, none, .p (.bin .add (.t 7) (.k (.s (.int .i64 1))))⟩,
 ⟨some 9, none, .p (.slS (.k (.s (.str ⟨#[32, 80, 78, 66, 82, 81, 75]⟩))) (some (.t 5)) (some (.t 8)))⟩,
 ⟨some 3, none, .p (.mv (.t 9))⟩])
 (.seq (.seq (.ops [⟨some 10, none, .p (.fa 1 1 (.t 1))⟩,
 ⟨some 11, none, .h (.load false 1 (.t 10))⟩,
 ⟨some 12, none, .p (.bin .eql (.t 11) (.k (.s (.int .i64 1))))⟩])
 (.cond (.t 12)
 (.ops [⟨some 13, none, .p (.mv (.t 3))⟩,
 ⟨some 14, none, .h (.call (.k (.fn 56 [])) [(.t 13)])⟩,
 ⟨some 3, none, .p (.mv (.t 14))⟩])
 .skip))
 (.seq (.ops [⟨some 15, none, .p (.mv (.t 3))⟩,
 ⟨some 2, none, .p (.mv (.t 15))⟩])
 .ret))))⟩
theorem c28 : compF Tryd.prog false Tryd.f28 = some a28 := by kernel_rfl
/-- (*strings.Builder).Grow -/
def a30 : AF := ⟨25, [],
 (.seq (.ops [⟨some 4, none, .p (.mv (.t 0))⟩,
 ⟨some 5, none, .h (.call (.k (.fn 55 [])) [(.t 4)])⟩])
 (.seq (.seq (.ops [⟨some 6, none, .p (.mv (.t 1))⟩,
 ⟨some 7, none, .p (.bin .lss (.t 6) (.k (.s (.int .i64 0))))⟩])
 (.cond (.t 7)
 (.ops [⟨some 8, none, .p (.mkif 9 (.k (.s (.str ⟨#[115, 116, 114, 105, 110, 103, 115, 46, 66, 117, 105, 108, 100, 101, 114, 46, 71, 114, 111, 119, 58, 32, 110, 101, 103, 97, 116, 105, 118, 101, 32, 99, 111, 117, 110, 116]⟩))))⟩,
 ⟨none, none, .h (.pnc (.t 8))⟩])
 .skip))
 (.seq (.par [⟨some 9, none, .p (.mv (.t 0))⟩,
 ⟨some 10, none, .p (.nilck (.t 9))⟩,
 ⟨some 11, none, .p (.fa 1 1 (.t 10))⟩,
 ⟨some 12, none, .h (.load false 1 (.t 11))⟩,
 ⟨some 13, none, .p (.capN (.t 12))⟩,
 ⟨some 14, none, .p (.mv (.t 0))⟩,
 ⟨some 15, none, .p (.nilck (.t 14))⟩,
 ⟨some 16, none, .p (.fa 1 1 (.t 15))⟩,
 ⟨some 17, none, .h (.load false 1 (.t 16))⟩,
 ⟨some 18, none, .p (.len (.t 17))⟩,
 ⟨some 19, none, .p (.bin .sub (.t 13) (.t 18))⟩,
 ⟨some 20, none, .p (.mv (.t 1))⟩,
 ⟨some 21, none, .p (.bin .lss (.t 19) (.t 20))⟩])
 (.cond (.t 21)
 (.ops [⟨some 22, none, .p (.mv (.t 0))⟩,
 ⟨some 23, none, .p (.mv (.t 1))⟩,
 ⟨some 24, none, .h (.call (.k (.fn 57 [])) [(.t 22), (.t 23)])⟩])
 .skip))))⟩
theorem c30 : compF Tryd.prog false Tryd.f30 = some a30 := by kernel_rfl
/-- zugzwang/square.of -/
def a31 : AF := ⟨17, [.cell 2 true 3],
 (.seq (.ops [⟨some 2, none, .h (.alloc (.scl [(.int .i64 0), (.int .i64 0), (.bool false)]))⟩])
 (.seq (.seq (.ops [⟨some 3, none, .p (.mv (.t 0))⟩,
 ⟨some 4, none, .p (.bin .lss (.t 3) (.k (.s (.int .i64 0))))⟩,
 ⟨some 5, none, .p (.mv (.t 4))⟩,
 ⟨some 6, some (5, false), .p (.mv (.t 0))⟩,
 ⟨some 7, some (5, false), .p (.bin .geq (.t 6) (.k (.s (.int .i64 64))))⟩,
 ⟨some 8, none, .p (.pick (.t 5) (.k (.s (.bool true))) (.t 7))⟩])
 (.cond (.t 8)
 (.seq (.ops [⟨some 9, none, .p (.build (.ints 2) [(0, 1, (.k (.s (.int .i64 (-1))))), (1, 1, (.k (.s (.int .i64 (-1)))))])⟩,
 ⟨some 10, none, .p (.build (.scl [(.int .i64 0), (.int .i64 0), (.bool false)]) [(0, 2, (.t 9))])⟩,
 ⟨none, none, .h (.store 3 (.t 2) (.t 10))⟩])
 .ret)
 .skip))
 (.seq (.ops [⟨some 11, none, .p (.mv (.t 0))⟩,
 ⟨some 12, none, .p (.bin .rem (.t 11) (.k (.s (.int .i64 8))))⟩,
 ⟨some 13, none, .p (.mv (.t 0))⟩,
 ⟨some 14, none, .p (.bin .quo (.t 13) (.k (.s (.int .i64 8))))⟩,
 ⟨some 15, none, .p (.build (.ints 2) [(0, 1, (.t 12)), (1, 1, (.t 14))])⟩,
 ⟨some 16, none, .p (.build (.scl [(.int .i64 0), (.int .i64 0), (.bool false)]) [(0, 2, (.t 15)), (2, 1, (.k (.s (.bool true))))])⟩,
 ⟨none, none, .h (.store 3 (.t 2) (.t 16))⟩])
 .ret)))⟩
theorem c31 : compF Tryd.prog false Tryd.f31 = some a31 := by kernel_rfl
/-- zugzwang/zugzwangref06.Empty -/
def a37 : AF := ⟨2, [.cell 0 true 133],
 (.seq (.ops [⟨some 0, none, .h (.alloc (.ints 133))⟩])
 (.seq (.ops [⟨some 1, none, .p (.build (.ints 133) [(130, 1, (.k (.s (.int .i64 (-1))))), (132, 1, (.k (.s (.int .i64 1))))])⟩,
 ⟨none, none, .h (.store 133 (.t 0) (.t 1))⟩])
 .ret))⟩
theorem c37 : compF Tryd.prog false Tryd.f37 = some a37 := by kernel_rfl
/-- zugzwang/square.Rank -/
def a38 : AF := ⟨7, [.tmp 2],
 (.seq (.ops [⟨some 2, none, .p (.mv (.k (.s (.int .i64 0))))⟩])
 (.seq (.ops [⟨some 3, none, .p (.mv (.t 0))⟩,
 ⟨some 4, none, .h (.call (.k (.fn 31 [])) [(.t 3)])⟩,
 ⟨some 5, none, .p (.fld true 0 2 (.t 4))⟩,
 ⟨some 6, none, .p (.fld false 1 1 (.t 5))⟩,
 ⟨some 2, none, .p (.mv (.t 6))⟩])
 .ret))⟩
theorem c38 : compF Tryd.prog false Tryd.f38 = some a38 := by kernel_rfl
/-- zugzwang/board.may -/
def a39 : AF := ⟨21, [.tmp 2],
 (.seq (.ops [⟨some 1, none, .h (.box (.t 0))⟩,
 ⟨some 2, none, .p (.mv (.k (.s (.bool false))))⟩])
 (.seq (.ops [⟨some 3, none, .p (.fa 0 1 (.t 1))⟩,
 ⟨some 4, none, .h (.load false 1 (.t 3))⟩,
 ⟨some 5, none, .p (.bin .geq (.t 4) (.k (.s (.int .i64 1))))⟩,
 ⟨some 6, none, .p (.mv (.t 5))⟩,
 ⟨some 7, some (6, true), .p (.fa 0 1 (.t 1))⟩,
 ⟨some 8, some (6, true), .h (.load false 1 (.t 7))⟩,
 ⟨some 9, some (6, true), .p (.bin .leq (.t 8) (.k (.s (.int .i64 6))))⟩,
 ⟨some 10, none, .p (.pick (.t 6) (.t 9) (.k (.s (.bool false))))⟩,
 ⟨some 11, none, .p (.mv (.t 10))⟩,
 ⟨some 12, some (11, true), .p (.fa 1 1 (.t 1))⟩,
 ⟨some 13, some (11, true), .h (.load false 1 (.t 12))⟩,
 ⟨some 14, some (11, true), .p (.bin .eql (.t 13) (.k (.s (.int .i64 0))))⟩,
 ⟨some 15, some (11, true), .p (.mv (.t 14))⟩,
 ⟨some 16, some (15, false), .p (.fa 1 1 (.t 1))⟩,
 ⟨some 17, some (15, false), .h (.load false 1 (.t 16))⟩,
 ⟨some 18, some (15, false), .p (.bin .eql (.t 17) (.k (.s (.int .i64 1))))⟩,
 ⟨some 19, some (11, true), .p (.pick (.t 15) (.k (.s (.bool true))) (.t 18))⟩,
 ⟨some 20, none, .p (.pick (.t 11) (.t 19) (.k (.s (.bool false))))⟩,
 ⟨some 2, none, .p (.mv (.t 20))⟩])
 .ret))⟩
theorem c39 : compF Tryd.prog false Tryd.f39 = some a39 := by kernel_rfl
/-- (zugzwang/board.checker).stands -/
def a40 : AF := ⟨18, [.tmp 8],
 (.seq (.ops [⟨some 4, none, .h (.box (.t 0))⟩,
 ⟨some 8, none, .p (.mv (.k (.s (.bool false))))⟩])
 (.seq (.ops [⟨some 9, none, .p (.mv (.t 3))⟩,
 ⟨some 10, none, .p (.fa 0 133 (.t 4))⟩,
 ⟨some 11, none, .p (.fa 0 128 (.t 10))⟩,
 ⟨some 12, none, .p (.ixa 64 2 (.t 11) (.t 9))⟩,
 ⟨some 13, none, .h (.load true 2 (.t 12))⟩,
 ⟨some 14, none, .p (.mv (.t 1))⟩,
 ⟨some 15, none, .p (.mv (.t 2))⟩,
 ⟨some 16, none, .p (.build (.ints 2) [(0, 1, (.t 14)), (1, 1, (.t 15))])⟩,
 ⟨some 17, none, .p (.eqa false 2 (.t 13) (.t 16))⟩,
 ⟨some 8, none, .p (.mv (.t 17))⟩])
 .ret))⟩
theorem c40 : compF Tryd.prog false Tryd.f40 = some a40 := by kernel_rfl
/-- (zugzwang/board.checker).over$1 -/
def a41 : AF := ⟨11, [.tmp 3],
 (.seq (.ops [⟨some 3, none, .p (.mv (.k (.s (.bool false))))⟩])
 (.seq (.ops [⟨some 4, none, .p (.mv (.t 0))⟩,
 ⟨some 5, none, .p (.fa 0 133 (.t 1))⟩,
 ⟨some 6, none, .p (.fa 0 128 (.t 5))⟩,
 ⟨some 7, none, .p (.ixa 64 2 (.t 6) (.t 4))⟩,
 ⟨some 8, none, .h (.load true 2 (.t 7))⟩,
 ⟨some 9, none, .p (.build (.ints 2) [])⟩,
 ⟨some 10, none, .p (.eqa false 2 (.t 8) (.t 9))⟩,
 ⟨some 3, none, .p (.mv (.t 10))⟩])
 .ret))⟩
theorem c41 : compF Tryd.prog false Tryd.f41 = some a41 := by kernel_rfl
/-- zugzwang/square.Step -/
def a42 : AF := ⟨13, [.tmp 6],
 (.seq (.ops [⟨some 6, none, .p (.mv (.k (.s (.int .i64 0))))⟩])
 (.seq (.ops [⟨some 7, none, .p (.mv (.t 0))⟩,
 ⟨some 8, none, .h (.call (.k (.fn 31 [])) [(.t 7)])⟩,
 ⟨some 9, none, .p (.mv (.t 1))⟩,
 ⟨some 10, none, .p (.mv (.t 2))⟩,
 ⟨some 11, none, .h (.call (.k (.fn 62 [])) [(.t 8), (.t 9), (.t 10)])⟩,
 ⟨some 12, none, .h (.call (.k (.fn 54 [])) [(.t 11)])⟩,
 ⟨some 6, none, .p (.mv (.t 12))⟩])
 .ret))⟩
theorem c42 : compF Tryd.prog false Tryd.f42 = some a42 := by kernel_rfl
/-- zugzwang/board.Other -/
def a43 : AF := ⟨5, [.tmp 2],
 (.seq (.ops [⟨some 2, none, .p (.mv (.k (.s (.int .i64 0))))⟩])
 (.seq (.seq (.ops [⟨some 3, none, .p (.mv (.t 0))⟩,
 ⟨some 4, none, .p (.bin .eql (.t 3) (.k (.s (.int .i64 0))))⟩])
 (.cond (.t 4)
 (.seq (.ops [⟨some 2, none, .p (.mv (.k (.s (.int .i64 1))))⟩])
 .ret)
 .skip))
 (.seq (.ops [⟨some 2, none, .p (.mv (.k (.s (.int .i64 0))))⟩])
 .ret)))⟩
theorem c43 : compF Tryd.prog false Tryd.f43 = some a43 := by kernel_rfl
/-- zugzwang/fen.pieces -/
def a44 : AF := ⟨23, [.tmp 0],
 (.seq (.ops [⟨some 0, none, .p (.mv (.k .mnil))⟩])
 (.seq (.ops [⟨some 5, none, .h (.mkmap)⟩,
 ⟨some 1, none, .p (.mv (.t 5))⟩])
 (.seq (.seq (.ops [⟨some 2, none, .p (.mv (.k (.s (.int .i64 1))))⟩])
 (.block 0 (.loop (.seq (.seq (.ops [⟨some 6, none, .p (.mv (.t 2))⟩,
 ⟨some 7, none, .p (.bin .leq (.t 6) (.k (.s (.int .i64 6))))⟩])
 (.cond (.t 7)
 .skip
 (.exit 0)))
 (.seq (.block 1 (.seq (.ops [⟨some 3, none, .p (.mv (.k (.s (.int .i64 0))))⟩])
 (.block 2 (.loop (.seq (.seq (.ops [⟨some 10, none, .p (.mv (.t 3))⟩,
 ⟨some 11, none, .p (.bin .leq (.t 10) (.k (.s (.int .i64 1))))⟩])
 (.cond (.t 11)
 .skip
 (.exit 2)))
 (.seq (.block 3 (.seq (.ops [⟨some 14, none, .p (.mv (.t 2))⟩,
 ⟨some 15, none, .p (.mv (.t 3))⟩,
 ⟨some 16, none, .p (.build (.ints 2) [(0, 1, (.t 14)), (1, 1, (.t 15))])⟩,
 ⟨some 4, none, .h (.alloc (.ints 2))⟩,
 ⟨none, none, .h (.store 2 (.t 4) (.t 16))⟩])
 (.par [⟨some 17, none, .p (.mv (.t 1))⟩,
 ⟨some 18, none, .h (.load true 2 (.t 4))⟩,
 ⟨some 19, none, .h (.callq (.k (.fn 28 [])) [(.t 18)])⟩,
 ⟨some 20, none, .p (.ixstr (.t 19) (.k (.s (.int .i64 0))))⟩,
 ⟨some 21, none, .h (.load true 2 (.t 4))⟩,
 ⟨none, none, .h (.mput (.t 17) (.t 20) (.t 21))⟩])))
 (.ops [⟨some 12, none, .p (.mv (.t 3))⟩,
 ⟨some 13, none, .p (.bin .add (.t 12) (.k (.s (.int .i64 1))))⟩,
 ⟨some 3, none, .p (.mv (.t 13))⟩])))))))
 (.ops [⟨some 8, none, .p (.mv (.t 2))⟩,
 ⟨some 9, none, .p (.bin .add (.t 8) (.k (.s (.int .i64 1))))⟩,
 ⟨some 2, none, .p (.mv (.t 9))⟩]))))))
 (.seq (.ops [⟨some 22, none, .p (.mv (.t 1))⟩,
 ⟨some 0, none, .p (.mv (.t 22))⟩])
 .ret))))⟩
theorem c44 : compF Tryd.prog false Tryd.f44 = some a44 := by kernel_rfl
/-- (*zugzwang/fen.reader).rank -/
def a45 : AF := ⟨46, [],
 (.seq (.ops [⟨some 6, none, .p (.mv (.k (.s (.bool true))))⟩])
 (.seq (.ops [⟨some 7, none, .p (.mv (.k (.s (.int .i64 0))))⟩])
 (.block 0 (.loop (.seq (.seq (.ops [⟨some 12, none, .p (.mv (.t 7))⟩,
 ⟨some 13, none, .p (.bin .lss (.t 12) (.k (.s (.int .i64 8))))⟩])
 (.cond (.t 13)
 .skip
 (.exit 0)))
 (.block 1 (.seq (.ops [⟨some 8, none, .p (.mv (.k (.s (.str ⟨#[]⟩))))⟩])
 (.seq (.seq (.ops [⟨some 14, none, .p (.mv (.t 6))⟩])
 (.cond (.t 14)
 (.ops [⟨some 15, none, .p (.mv (.t 7))⟩,
 ⟨some 16, none, .p (.bin .sub (.k (.s (.int .i64 9))) (.t 15))⟩,
 ⟨some 17, none, .p (.slS (.k (.s (.str ⟨#[48, 49, 50, 51, 52, 53, 54, 55, 56, 57]⟩))) (some (.k (.s (.int .i64 1)))) (some (.t 16)))⟩,
 ⟨some 8, none, .p (.mv (.t 17))⟩])
 .skip))
 (.seq (.ops [⟨some 18, none, .p (.mv (.t 0))⟩,
 ⟨some 19, none, .p (.mv (.t 8))⟩,
 ⟨some 20, none, .h (.mksl 2 1 (.one (.s (.str ⟨#[]⟩))) [(0, (.t 19)), (1, (.k (.s (.str ⟨#[80, 78, 66, 82, 81, 75, 112, 110, 98, 114, 113, 107]⟩))))])⟩,
 ⟨some 21, none, .h (.call (.k (.fn 46 [])) [(.t 18), (.t 20)])⟩,
 ⟨some 9, none, .p (.mv (.t 21))⟩])
 (.seq (.ops [⟨some 23, none, .p (.mv (.t 2))⟩,
 ⟨some 24, none, .p (.mv (.t 9))⟩,
 ⟨some 25, none, .h (.mget (.ints 2) true (.t 23) (.t 24))⟩,
 ⟨some 22, none, .p (.mv (.t 25))⟩,
 ⟨some 26, none, .p (.ext (.t 22) 0)⟩,
 ⟨some 27, none, .p (.ext (.t 22) 1)⟩,
 ⟨some 10, none, .h (.alloc (.ints 2))⟩,
 ⟨none, none, .h (.store 2 (.t 10) (.t 26))⟩,
 ⟨some 11, none, .p (.mv (.t 27))⟩])
 (.seq (.seq (.ops [⟨some 28, none, .p (.mv (.t 11))⟩])
 (.cond (.t 28)
 (.seq (.par [⟨some 29, none, .p (.mv (.t 0))⟩,
 ⟨some 30, none, .p (.mv (.t 7))⟩,
 ⟨some 31, none, .p (.mv (.t 1))⟩,
 ⟨some 32, none, .h (.callq (.k (.fn 26 [])) [(.t 30), (.t 31)])⟩,
 ⟨some 33, none, .h (.load true 2 (.t 10))⟩,
 ⟨some 34, none, .p (.nilck (.t 29))⟩,
 ⟨some 35, none, .p (.fa 2 133 (.t 34))⟩,
 ⟨some 36, none, .p (.fa 0 128 (.t 35))⟩,
 ⟨some 37, none, .p (.ixa 64 2 (.t 36) (.t 32))⟩,
 ⟨none, none, .h (.store 2 (.t 37) (.t 33))⟩])
 (.ops [⟨some 38, none, .p (.mv (.t 7))⟩,
 ⟨some 39, none, .p (.bin .add (.t 38) (.k (.s (.int .i64 1))))⟩,
 ⟨some 7, none, .p (.mv (.t 39))⟩]))
 (.ops [⟨some 40, none, .p (.mv (.t 7))⟩,
 ⟨some 41, none, .p (.mv (.t 9))⟩,
 ⟨some 42, none, .p (.bin .sub (.t 41) (.k (.s (.int .u8 48))))⟩,
 ⟨some 43, none, .p (.conv .i64 (.t 42))⟩,
 ⟨some 44, none, .p (.bin .add (.t 40) (.t 43))⟩,
 ⟨some 7, none, .p (.mv (.t 44))⟩])))
 (.ops [⟨some 45, none, .p (.mv (.t 11))⟩,
 ⟨some 6, none, .p (.mv (.t 45))⟩]))))))))))))⟩
theorem c45 : compF Tryd.prog false Tryd.f45 = some a45 := by kernel_rfl
/-- (*zugzwang/fen.reader).must -/
def a46 : AF := ⟨21, [.tmp 4],
 (.seq (.ops [⟨some 4, none, .p (.mv (.k (.s (.int .u8 0))))⟩])
 (.seq (.ops [⟨some 6, none, .p (.mv (.t 0))⟩,
 ⟨some 7, none, .p (.nilck (.t 6))⟩,
 ⟨some 8, none, .p (.fa 0 2 (.t 7))⟩,
 ⟨some 9, none, .p (.mv (.t 1))⟩,
 ⟨some 10, none, .h (.call (.k (.fn 63 [])) [(.t 8), (.t 9)])⟩,
 ⟨some 5, none, .p (.mv (.t 10))⟩])
 (.seq (.seq (.ops [⟨some 11, none, .p (.mv (.t 5))⟩,
 ⟨some 12, none, .p (.bin .eql (.t 11) (.k (.s (.int .u8 0))))⟩])
 (.cond (.t 12)
 (.ops [⟨some 13, none, .p (.mv (.t 0))⟩,
 ⟨some 14, none, .p (.nilck (.t 13))⟩,
 ⟨some 15, none, .p (.fa 0 2 (.t 14))⟩,
 ⟨some 16, none, .p (.fa 1 1 (.t 15))⟩,
 ⟨some 17, none, .h (.load false 1 (.t 16))⟩,
 ⟨some 18, none, .p (.build (.ints 1) [(0, 1, (.t 17))])⟩,
 ⟨some 19, none, .p (.mkif 49 (.t 18))⟩,
 ⟨none, none, .h (.pnc (.t 19))⟩])
 .skip))
 (.seq (.ops [⟨some 20, none, .p (.mv (.t 5))⟩,
 ⟨some 4, none, .p (.mv (.t 20))⟩])
 .ret))))⟩
theorem c46 : compF Tryd.prog false Tryd.f46 = some a46 := by kernel_rfl
/-- (*zugzwang/fen.reader).all$1 -/
def a47 : AF := ⟨9, [],
 (.parc [[0, 1, 2, 3, 4, 5, 6, 7, 8], [0, 2, 1, 3, 4, 5, 6, 7, 8], [1, 0, 2, 3, 4, 5, 6, 7, 8], [1, 2, 0, 3, 4, 5, 6, 7, 8], [1, 2, 3, 0, 4, 5, 6, 7, 8], [1, 2, 3, 4, 0, 5, 6, 7, 8], [2, 0, 1, 3, 4, 5, 6, 7, 8], [2, 1, 0, 3, 4, 5, 6, 7, 8], [2, 1, 3, 0, 4, 5, 6, 7, 8], [2, 1, 3, 4, 0, 5, 6, 7, 8]] [⟨some 1, none, .h (.load false 1 (.t 0))⟩,
 ⟨some 2, none, .h (.load false 1 (.t 0))⟩,
 ⟨some 3, none, .h (.mksl 1 1 (.one (.s (.str ⟨#[]⟩))) [(0, (.k (.s (.str ⟨#[119, 98]⟩))))])⟩,
 ⟨some 4, none, .h (.call (.k (.fn 46 [])) [(.t 2), (.t 3)])⟩,
 ⟨some 5, none, .h (.call (.k (.fn 48 [])) [(.k (.s (.str ⟨#[119, 98]⟩))), (.t 4)])⟩,
 ⟨some 6, none, .p (.nilck (.t 1))⟩,
 ⟨some 7, none, .p (.fa 2 133 (.t 6))⟩,
 ⟨some 8, none, .p (.fa 128 1 (.t 7))⟩,
 ⟨none, none, .h (.store 1 (.t 8) (.t 5))⟩])⟩
theorem c47 : compF Tryd.prog true Tryd.f47 = some a47 := by kernel_rfl
/-- (*zugzwang/fen.reader).castle -/
def a49 : AF := ⟨48, [],
 (.seq (.seq (.ops [⟨some 6, none, .p (.mv (.t 0))⟩,
 ⟨some 7, none, .p (.nilck (.t 6))⟩,
 ⟨some 8, none, .p (.fa 0 2 (.t 7))⟩,
 ⟨some 9, none, .h (.mksl 1 1 (.one (.s (.str ⟨#[]⟩))) [(0, (.k (.s (.str ⟨#[45]⟩))))])⟩,
 ⟨some 10, none, .h (.call (.k (.fn 63 [])) [(.t 8), (.t 9)])⟩,
 ⟨some 11, none, .p (.bin .neq (.t 10) (.k (.s (.int .u8 0))))⟩])
 (.cond (.t 11)
 .ret
 .skip))
 (.seq (.ops [⟨some 2, none, .p (.mv (.k (.s (.int .i64 0))))⟩])
 (.seq (.ops [⟨some 3, none, .p (.mv (.k (.s (.bool true))))⟩])
 (.block 0 (.loop (.seq (.block 1 (.seq (.par [⟨some 12, none, .p (.mv (.t 0))⟩,
 ⟨some 13, none, .p (.nilck (.t 12))⟩,
 ⟨some 14, none, .p (.fa 0 2 (.t 13))⟩,
 ⟨some 15, none, .p (.mv (.t 2))⟩,
 ⟨some 16, none, .p (.slS (.k (.s (.str ⟨#[75, 81, 107, 113]⟩))) (some (.t 15)) none)⟩,
 ⟨some 17, none, .h (.mksl 1 1 (.one (.s (.str ⟨#[]⟩))) [(0, (.t 16))])⟩,
 ⟨some 18, none, .h (.call (.k (.fn 63 [])) [(.t 14), (.t 17)])⟩,
 ⟨some 4, none, .p (.mv (.t 18))⟩])
 (.seq (.seq (.ops [⟨some 19, none, .p (.mv (.t 4))⟩,
 ⟨some 20, none, .p (.bin .eql (.t 19) (.k (.s (.int .u8 0))))⟩,
 ⟨some 21, none, .p (.mv (.t 20))⟩,
 ⟨some 22, some (21, true), .p (.mv (.t 3))⟩,
 ⟨some 23, none, .p (.pick (.t 21) (.t 22) (.k (.s (.bool false))))⟩])
 (.cond (.t 23)
 (.ops [⟨some 24, none, .p (.mv (.t 0))⟩,
 ⟨some 25, none, .p (.nilck (.t 24))⟩,
 ⟨some 26, none, .p (.fa 0 2 (.t 25))⟩,
 ⟨some 27, none, .p (.fa 1 1 (.t 26))⟩,
 ⟨some 28, none, .h (.load false 1 (.t 27))⟩,
 ⟨some 29, none, .p (.build (.ints 1) [(0, 1, (.t 28))])⟩,
 ⟨some 30, none, .p (.mkif 49 (.t 29))⟩,
 ⟨none, none, .h (.pnc (.t 30))⟩])
 .skip))
 (.seq (.seq (.ops [⟨some 31, none, .p (.mv (.t 4))⟩,
 ⟨some 32, none, .p (.bin .eql (.t 31) (.k (.s (.int .u8 0))))⟩])
 (.cond (.t 32)
 .ret
 .skip))
 (.seq (.ops [⟨some 33, none, .p (.mv (.t 4))⟩,
 ⟨some 34, none, .h (.call (.k (.fn 48 [])) [(.k (.s (.str ⟨#[75, 81, 107, 113]⟩))), (.t 33)])⟩,
 ⟨some 5, none, .p (.mv (.t 34))⟩])
 (.seq (.par [⟨some 35, none, .p (.mv (.t 0))⟩,
 ⟨some 36, none, .p (.nilck (.t 35))⟩,
 ⟨some 37, none, .p (.fa 2 133 (.t 36))⟩,
 ⟨some 38, none, .p (.fa 129 1 (.t 37))⟩,
 ⟨some 39, none, .h (.load false 1 (.t 38))⟩,
 ⟨some 40, none, .p (.mv (.t 5))⟩,
 ⟨some 41, none, .p (.bin .shl (.k (.s (.int .i64 1))) (.t 40))⟩,
 ⟨some 42, none, .p (.bin .or (.t 39) (.t 41))⟩,
 ⟨some 43, none, .p (.nilck (.t 35))⟩,
 ⟨some 44, none, .p (.fa 2 133 (.t 43))⟩,
 ⟨some 45, none, .p (.fa 129 1 (.t 44))⟩,
 ⟨none, none, .h (.store 1 (.t 45) (.t 42))⟩])
 (.ops [⟨some 46, none, .p (.mv (.t 5))⟩,
 ⟨some 47, none, .p (.bin .add (.t 46) (.k (.s (.int .i64 1))))⟩,
 ⟨some 2, none, .p (.mv (.t 47))⟩])))))))
 (.ops [⟨some 3, none, .p (.mv (.k (.s (.bool false))))⟩])))))))⟩
theorem c49 : compF Tryd.prog false Tryd.f49 = some a49 := by kernel_rfl
/-- (*zugzwang/fen.reader).over -/
def a50 : AF := ⟨29, [],
 (.seq (.ops [⟨some 3, none, .p (.mv (.t 0))⟩,
 ⟨some 4, none, .p (.nilck (.t 3))⟩,
 ⟨some 5, none, .p (.fa 2 133 (.t 4))⟩,
 ⟨some 6, none, .p (.fa 130 1 (.t 5))⟩,
 ⟨none, none, .h (.store 1 (.t 6) (.k (.s (.int .i64 (-1)))))⟩])
 (.seq (.ops [⟨some 7, none, .p (.mv (.t 0))⟩,
 ⟨some 8, none, .p (.nilck (.t 7))⟩,
 ⟨some 9, none, .p (.fa 0 2 (.t 8))⟩,
 ⟨some 10, none, .h (.mksl 1 1 (.one (.s (.str ⟨#[]⟩))) [(0, (.k (.s (.str ⟨#[45]⟩))))])⟩,
 ⟨some 11, none, .h (.call (.k (.fn 63 [])) [(.t 9), (.t 10)])⟩,
 ⟨some 12, none, .p (.bin .eql (.t 11) (.k (.s (.int .u8 0))))⟩])
 (.cond (.t 12)
 (.seq (.ops [⟨some 13, none, .p (.mv (.t 0))⟩,
 ⟨some 14, none, .h (.mksl 1 1 (.one (.s (.str ⟨#[]⟩))) [(0, (.k (.s (.str ⟨#[97, 98, 99, 100, 101, 102, 103, 104]⟩))))])⟩,
 ⟨some 15, none, .h (.call (.k (.fn 46 [])) [(.t 13), (.t 14)])⟩,
 ⟨some 2, none, .p (.mv (.t 15))⟩])
 (.ops [⟨some 16, none, .p (.mv (.t 0))⟩,
 ⟨some 17, none, .p (.mv (.t 2))⟩,
 ⟨some 18, none, .p (.bin .sub (.t 17) (.k (.s (.int .u8 97))))⟩,
 ⟨some 19, none, .p (.conv .i64 (.t 18))⟩,
 ⟨some 20, none, .p (.mv (.t 0))⟩,
 ⟨some 21, none, .h (.mksl 1 1 (.one (.s (.str ⟨#[]⟩))) [(0, (.k (.s (.str ⟨#[49, 50, 51, 52, 53, 54, 55, 56]⟩))))])⟩,
 ⟨some 22, none, .h (.call (.k (.fn 46 [])) [(.t 20), (.t 21)])⟩,
 ⟨some 23, none, .p (.bin .sub (.t 22) (.k (.s (.int .u8 49))))⟩,
 ⟨some 24, none, .p (.conv .i64 (.t 23))⟩,
 ⟨some 25, none, .h (.call (.k (.fn 26 [])) [(.t 19), (.t 24)])⟩,
 ⟨some 26, none, .p (.nilck (.t 16))⟩,
 ⟨some 27, none, .p (.fa 2 133 (.t 26))⟩,
 ⟨some 28, none, .p (.fa 130 1 (.t 27))⟩,
 ⟨none, none, .h (.store 1 (.t 28) (.t 25))⟩]))
 .skip)))⟩
theorem c50 : compF Tryd.prog false Tryd.f50 = some a50 := by kernel_rfl
/-- (*zugzwang/fen.reader).all$2 -/
def a51 : AF := ⟨7, [],
 (.parc [[0, 1, 2, 3, 4, 5, 6], [1, 0, 2, 3, 4, 5, 6], [1, 2, 0, 3, 4, 5, 6]] [⟨some 1, none, .h (.load false 1 (.t 0))⟩,
 ⟨some 2, none, .h (.load false 1 (.t 0))⟩,
 ⟨some 3, none, .h (.call (.k (.fn 52 [])) [(.t 2)])⟩,
 ⟨some 4, none, .p (.nilck (.t 1))⟩,
 ⟨some 5, none, .p (.fa 2 133 (.t 4))⟩,
 ⟨some 6, none, .p (.fa 131 1 (.t 5))⟩,
 ⟨none, none, .h (.store 1 (.t 6) (.t 3))⟩])⟩
theorem c51 : compF Tryd.prog true Tryd.f51 = some a51 := by kernel_rfl
/-- (*zugzwang/fen.reader).number -/
def a52 : AF := ⟨33, [.tmp 2],
 (.seq (.ops [⟨some 2, none, .p (.mv (.k (.s (.int .i64 0))))⟩])
 (.seq (.ops [⟨some 6, none, .p (.mv (.t 0))⟩,
 ⟨some 7, none, .h (.mksl 1 1 (.one (.s (.str ⟨#[]⟩))) [(0, (.k (.s (.str ⟨#[48, 49, 50, 51, 52, 53, 54, 55, 56, 57]⟩))))])⟩,
 ⟨some 8, none, .h (.call (.k (.fn 46 [])) [(.t 6), (.t 7)])⟩,
 ⟨some 9, none, .p (.bin .sub (.t 8) (.k (.s (.int .u8 48))))⟩,
 ⟨some 10, none, .p (.conv .i64 (.t 9))⟩,
 ⟨some 3, none, .p (.mv (.t 10))⟩])
 (.seq (.seq (.ops [⟨some 4, none, .p (.mv (.k (.s (.int .i64 0))))⟩])
 (.block 0 (.loop (.seq (.seq (.ops [⟨some 11, none, .p (.mv (.t 4))⟩,
 ⟨some 12, none, .p (.bin .lss (.t 11) (.k (.s (.int .i64 5))))⟩,
 ⟨some 13, none, .p (.mv (.t 12))⟩,
 ⟨some 14, some (13, true), .p (.mv (.t 3))⟩,
 ⟨some 15, some (13, true), .p (.bin .gtr (.t 14) (.k (.s (.int .i64 0))))⟩,
 ⟨some 16, none, .p (.pick (.t 13) (.t 15) (.k (.s (.bool false))))⟩])
 (.cond (.t 16)
 .skip
 (.exit 0)))
 (.seq (.block 1 (.seq (.ops [⟨some 19, none, .p (.mv (.t 0))⟩,
 ⟨some 20, none, .p (.nilck (.t 19))⟩,
 ⟨some 21, none, .p (.fa 0 2 (.t 20))⟩,
 ⟨some 22, none, .h (.mksl 1 1 (.one (.s (.str ⟨#[]⟩))) [(0, (.k (.s (.str ⟨#[48, 49, 50, 51, 52, 53, 54, 55, 56, 57]⟩))))])⟩,
 ⟨some 23, none, .h (.call (.k (.fn 63 [])) [(.t 21), (.t 22)])⟩,
 ⟨some 5, none, .p (.mv (.t 23))⟩])
 (.seq (.seq (.ops [⟨some 24, none, .p (.mv (.t 5))⟩,
 ⟨some 25, none, .p (.bin .eql (.t 24) (.k (.s (.int .u8 0))))⟩])
 (.cond (.t 25)
 (.exit 0)
 .skip))
 (.ops [⟨some 26, none, .p (.mv (.t 3))⟩,
 ⟨some 27, none, .p (.bin .mul (.k (.s (.int .i64 10))) (.t 26))⟩,
 ⟨some 28, none, .p (.mv (.t 5))⟩,
 ⟨some 29, none, .p (.bin .sub (.t 28) (.k (.s (.int .u8 48))))⟩,
 ⟨some 30, none, .p (.conv .i64 (.t 29))⟩,
 ⟨some 31, none, .p (.bin .add (.t 27) (.t 30))⟩,
 ⟨some 3, none, .p (.mv (.t 31))⟩]))))
 (.ops [⟨some 17, none, .p (.mv (.t 4))⟩,
 ⟨some 18, none, .p (.bin .add (.t 17) (.k (.s (.int .i64 1))))⟩,
 ⟨some 4, none, .p (.mv (.t 18))⟩]))))))
 (.seq (.ops [⟨some 32, none, .p (.mv (.t 3))⟩,
 ⟨some 2, none, .p (.mv (.t 32))⟩])
 .ret))))⟩
theorem c52 : compF Tryd.prog false Tryd.f52 = some a52 := by kernel_rfl
/-- (*zugzwang/fen.reader).all$3 -/
def a53 : AF := ⟨7, [],
 (.parc [[0, 1, 2, 3, 4, 5, 6], [1, 0, 2, 3, 4, 5, 6], [1, 2, 0, 3, 4, 5, 6]] [⟨some 1, none, .h (.load false 1 (.t 0))⟩,
 ⟨some 2, none, .h (.load false 1 (.t 0))⟩,
 ⟨some 3, none, .h (.call (.k (.fn 52 [])) [(.t 2)])⟩,
 ⟨some 4, none, .p (.nilck (.t 1))⟩,
 ⟨some 5, none, .p (.fa 2 133 (.t 4))⟩,
 ⟨some 6, none, .p (.fa 132 1 (.t 5))⟩,
 ⟨none, none, .h (.store 1 (.t 6) (.t 3))⟩])⟩
theorem c53 : compF Tryd.prog true Tryd.f53 = some a53 := by kernel_rfl
/-- (zugzwang/square.pair).number -/
def a54 : AF := ⟨12, [.tmp 2],
 (.seq (.ops [⟨some 1, none, .h (.box (.t 0))⟩,
 ⟨some 2, none, .p (.mv (.k (.s (.int .i64 0))))⟩])
 (.seq (.seq (.ops [⟨some 3, none, .h (.load true 2 (.t 1))⟩,
 ⟨some 4, none, .h (.call (.k (.fn 65 [])) [(.t 3)])⟩,
 ⟨some 5, none, .p (.un .not (.t 4))⟩])
 (.cond (.t 5)
 (.seq (.ops [⟨some 2, none, .p (.mv (.k (.s (.int .i64 (-1)))))⟩])
 .ret)
 .skip))
 (.seq (.ops [⟨some 6, none, .p (.fa 1 1 (.t 1))⟩,
 ⟨some 7, none, .h (.load false 1 (.t 6))⟩,
 ⟨some 8, none, .p (.bin .mul (.t 7) (.k (.s (.int .i64 8))))⟩,
 ⟨some 9, none, .p (.fa 0 1 (.t 1))⟩,
 ⟨some 10, none, .h (.load false 1 (.t 9))⟩,
 ⟨some 11, none, .p (.bin .add (.t 8) (.t 10))⟩,
 ⟨some 2, none, .p (.mv (.t 11))⟩])
 .ret)))⟩
theorem c54 : compF Tryd.prog false Tryd.f54 = some a54 := by kernel_rfl
/-- (zugzwang/square.place).on -/
def a62 : AF := ⟨34, [.cell 6 true 2],
 (.seq (.ops [⟨some 3, none, .h (.box (.t 0))⟩,
 ⟨some 6, none, .h (.alloc (.ints 2))⟩])
 (.seq (.seq (.ops [⟨some 7, none, .p (.fa 2 1 (.t 3))⟩,
 ⟨some 8, none, .h (.load false 1 (.t 7))⟩,
 ⟨some 9, none, .p (.un .not (.t 8))⟩,
 ⟨some 10, none, .p (.mv (.t 9))⟩,
 ⟨some 11, some (10, false), .p (.mv (.t 1))⟩,
 ⟨some 12, some (10, false), .p (.mv (.t 2))⟩,
 ⟨some 13, some (10, false), .p (.mx [(.t 11), (.t 12)])⟩,
 ⟨some 14, some (10, false), .p (.bin .geq (.t 13) (.k (.s (.int .i64 8))))⟩,
 ⟨some 15, none, .p (.pick (.t 10) (.k (.s (.bool true))) (.t 14))⟩,
 ⟨some 16, none, .p (.mv (.t 15))⟩,
 ⟨some 17, some (16, false), .p (.mv (.t 1))⟩,
 ⟨some 18, some (16, false), .p (.mv (.t 2))⟩,
 ⟨some 19, some (16, false), .p (.mn [(.t 17), (.t 18)])⟩,
 ⟨some 20, some (16, false), .p (.bin .leq (.t 19) (.k (.s (.int .i64 (-8)))))⟩,
 ⟨some 21, none, .p (.pick (.t 16) (.k (.s (.bool true))) (.t 20))⟩])
 (.cond (.t 21)
 (.seq (.ops [⟨some 22, none, .p (.build (.ints 2) [(0, 1, (.k (.s (.int .i64 (-1))))), (1, 1, (.k (.s (.int .i64 (-1)))))])⟩,
 ⟨none, none, .h (.store 2 (.t 6) (.t 22))⟩])
 .ret)
 .skip))
 (.seq (.ops [⟨some 23, none, .p (.fa 0 2 (.t 3))⟩,
 ⟨some 24, none, .p (.fa 0 1 (.t 23))⟩,
 ⟨some 25, none, .h (.load false 1 (.t 24))⟩,
 ⟨some 26, none, .p (.mv (.t 1))⟩,
 ⟨some 27, none, .p (.bin .add (.t 25) (.t 26))⟩,
 ⟨some 28, none, .p (.fa 0 2 (.t 3))⟩,
 ⟨some 29, none, .p (.fa 1 1 (.t 28))⟩,
 ⟨some 30, none, .h (.load false 1 (.t 29))⟩,
 ⟨some 31, none, .p (.mv (.t 2))⟩,
 ⟨some 32, none, .p (.bin .add (.t 30) (.t 31))⟩,
 ⟨some 33, none, .p (.build (.ints 2) [(0, 1, (.t 27)), (1, 1, (.t 32))])⟩,
 ⟨none, none, .h (.store 2 (.t 6) (.t 33))⟩])
 .ret)))⟩
theorem c62 : compF Tryd.prog false Tryd.f62 = some a62 := by kernel_rfl
/-- (*zugzwang/fen.place).take -/
def a63 : AF := ⟨52, [.tmp 4],
 (.seq (.ops [⟨some 4, none, .p (.mv (.k (.s (.int .u8 0))))⟩])
 (.seq (.seq (.par [⟨some 5, none, .p (.mv (.t 0))⟩,
 ⟨some 6, none, .p (.nilck (.t 5))⟩,
 ⟨some 7, none, .p (.fa 1 1 (.t 6))⟩,
 ⟨some 8, none, .h (.load false 1 (.t 7))⟩,
 ⟨some 9, none, .p (.mv (.t 0))⟩,
 ⟨some 10, none, .p (.nilck (.t 9))⟩,
 ⟨some 11, none, .p (.fa 0 1 (.t 10))⟩,
 ⟨some 12, none, .h (.load false 1 (.t 11))⟩,
 ⟨some 13, none, .p (.lenS (.t 12))⟩,
 ⟨some 14, none, .p (.bin .eql (.t 8) (.t 13))⟩,
 ⟨some 15, none, .p (.mv (.t 14))⟩,
 ⟨some 16, some (15, false), .p (.mv (.t 1))⟩,
 ⟨some 17, some (15, false), .h (.callq (.k (.fn 12 [])) [(.t 16), (.k (.s (.str ⟨#[]⟩)))])⟩,
 ⟨some 18, some (15, false), .p (.mv (.t 0))⟩,
 ⟨some 19, some (15, false), .p (.nilck (.t 18))⟩,
 ⟨some 20, some (15, false), .p (.fa 0 1 (.t 19))⟩,
 ⟨some 21, some (15, false), .h (.load false 1 (.t 20))⟩,
 ⟨some 22, some (15, false), .p (.mv (.t 0))⟩,
 ⟨some 23, some (15, false), .p (.nilck (.t 22))⟩,
 ⟨some 24, some (15, false), .p (.fa 1 1 (.t 23))⟩,
 ⟨some 25, some (15, false), .h (.load false 1 (.t 24))⟩,
 ⟨some 26, some (15, false), .p (.mv (.t 0))⟩,
 ⟨some 27, some (15, false), .p (.nilck (.t 26))⟩,
 ⟨some 28, some (15, false), .p (.fa 1 1 (.t 27))⟩,
 ⟨some 29, some (15, false), .h (.load false 1 (.t 28))⟩,
 ⟨some 30, some (15, false), .p (.bin .add (.t 29) (.k (.s (.int .i64 1))))⟩,
 ⟨some 31, some (15, false), .p (.slS (.t 21) (some (.t 25)) (some (.t 30)))⟩,
 ⟨some 32, some (15, false), .h (.call (.k (.fn 75 [])) [(.t 17), (.t 31)])⟩,
 ⟨some 33, some (15, false), .p (.un .not (.t 32))⟩,
 ⟨some 34, none, .p (.pick (.t 15) (.k (.s (.bool true))) (.t 33))⟩])
 (.cond (.t 34)
 (.seq (.ops [⟨some 4, none, .p (.mv (.k (.s (.int .u8 0))))⟩])
 .ret)
 .skip))
 (.seq (.ops [⟨some 35, none, .p (.mv (.t 0))⟩,
 ⟨some 36, none, .p (.nilck (.t 35))⟩,
 ⟨some 37, none, .p (.fa 1 1 (.t 36))⟩,
 ⟨some 38, none, .h (.load false 1 (.t 37))⟩,
 ⟨some 39, none, .p (.bin .add (.t 38) (.k (.s (.int .i64 1))))⟩,
 ⟨some 40, none, .p (.nilck (.t 35))⟩,
 ⟨some 41, none, .p (.fa 1 1 (.t 40))⟩,
 ⟨none, none, .h (.store 1 (.t 41) (.t 39))⟩])
 (.seq (.par [⟨some 42, none, .p (.mv (.t 0))⟩,
 ⟨some 43, none, .p (.nilck (.t 42))⟩,
 ⟨some 44, none, .p (.fa 0 1 (.t 43))⟩,
 ⟨some 45, none, .h (.load false 1 (.t 44))⟩,
 ⟨some 46, none, .p (.mv (.t 0))⟩,
 ⟨some 47, none, .p (.nilck (.t 46))⟩,
 ⟨some 48, none, .p (.fa 1 1 (.t 47))⟩,
 ⟨some 49, none, .h (.load false 1 (.t 48))⟩,
 ⟨some 50, none, .p (.bin .sub (.t 49) (.k (.s (.int .i64 1))))⟩,
 ⟨some 51, none, .p (.ixstr (.t 45) (.t 50))⟩,
 ⟨some 4, none, .p (.mv (.t 51))⟩])
 .ret))))⟩
theorem c63 : compF Tryd.prog false Tryd.f63 = some a63 := by kernel_rfl
/-- (zugzwang/square.pair).within -/
def a65 : AF := ⟨13, [.tmp 2],
 (.seq (.ops [⟨some 1, none, .h (.box (.t 0))⟩,
 ⟨some 2, none, .p (.mv (.k (.s (.bool false))))⟩])
 (.seq (.ops [⟨some 3, none, .p (.fa 0 1 (.t 1))⟩,
 ⟨some 4, none, .h (.load false 1 (.t 3))⟩,
 ⟨some 5, none, .p (.conv .u64 (.t 4))⟩,
 ⟨some 6, none, .p (.bin .lss (.t 5) (.k (.s (.int .u64 8))))⟩,
 ⟨some 7, none, .p (.mv (.t 6))⟩,
 ⟨some 8, some (7, true), .p (.fa 1 1 (.t 1))⟩,
 ⟨some 9, some (7, true), .h (.load false 1 (.t 8))⟩,
 ⟨some 10, some (7, true), .p (.conv .u64 (.t 9))⟩,
 ⟨some 11, some (7, true), .p (.bin .lss (.t 10) (.k (.s (.int .u64 8))))⟩,
 ⟨some 12, none, .p (.pick (.t 7) (.t 11) (.k (.s (.bool false))))⟩,
 ⟨some 2, none, .p (.mv (.t 12))⟩])
 .ret))⟩
theorem c65 : compF Tryd.prog false Tryd.f65 = some a65 := by kernel_rfl
end Go.Proofs.YtlaogmemhephnaaDoor
/- What stands in for functions of the library. -/
namespace Go.Am
open Go
/-- strings.IndexByte. -/
def idxPrim : List V → Heap → Option (V × Heap)
  | [.s (.str s), .s (.int .u8 c)], σ => some (.s (.int .i64 (Lib.indexByte s.data.toList c.toNat.toUInt8)), σ)
  | _, _ => none
/-- strconv.Itoa. -/
def itoaPrim : List V → Heap → Option (V × Heap)
  | [.s (.int .i64 n)], σ => if -9223372036854775808 ≤ n ∧ n ≤ 9223372036854775807 then some (.s (.str ⟨(Lib.itoa n).toArray⟩), σ) else none
  | _, _ => none
/-- strings.Contains, of one byte. -/
def hasPrim : List V → Heap → Option (V × Heap)
  | [.s (.str s), .s (.str t)], σ => if t.size = 1 then some (.s (.bool (decide (0 ≤ Lib.indexByte s.data.toList (t.data.getD 0 0)))), σ) else none
  | _, _ => none
/-- strings.ToLower, of one letter. -/
def lowPrim : List V → Heap → Option (V × Heap)
  | [.s (.str s)], σ => if s.size = 1 ∧ 65 ≤ (s.data.getD 0 0).toNat ∧ (s.data.getD 0 0).toNat ≤ 90 then some (.s (.str ⟨#[s.data.getD 0 0 + 32]⟩), σ) else none
  | _, _ => none
/-- copyCheck of strings.Builder. -/
def copyPrim (T : TypeId) : List V → Heap → Option (V × Heap)
  | [.ptr b 0 2], σ => match σ[b]? with
    | some (.vs (.ty t) [.pnil, x]) => if t = T then some (.tup [], σ.set b (.vs (.ty t) [.ptr b 0 2, x])) else none
    | some (.vs (.ty t) [.ptr c 0 2, _]) => if t = T ∧ c = b then some (.tup [], σ) else none
    | _ => none
  | _, _ => none
/-- grow of strings.Builder, without a buffer. -/
def growPrim (T el : TypeId) : List V → Heap → Option (V × Heap)
  | [.ptr b 0 2, .s (.int .i64 n)], σ => match σ[b]? with
    | some (.vs (.ty t) [.ptr c 0 2, .snil]) => if t = T ∧ c = b ∧ 0 ≤ n ∧ n ≤ 281474976710656 then some (.tup [], σ.set b (.vs (.ty t) [.ptr b 0 2, .sl σ.length 0 0 1 .whole]) ++ [.sc (.gty el) 0 (strS .empty)]) else none
    | _ => none
  | _, _ => none
def okByte : S → Bool
  | .int .u8 n => decide (0 ≤ n ∧ n < 256)
  | _ => false
/-- The bytes of cells. -/
def bytesOf (f : Nat → S) (m : Nat) : List UInt8 := (List.range m).map fun i => UInt8.ofNat (byteOf (f i))
/-- String of strings.Builder: the buffer is given up. -/
def strPrim (T el : TypeId) : List V → Heap → Option (V × Heap)
  | [.ptr b 0 2], σ => match σ[b]? with
    | some (.vs (.ty t) [_, .sl g 0 m 1 .whole]) => (match σ[g]? with
      | some (.sc (.gty e) _ f) => if t = T ∧ e = el ∧ m ≠ 0 ∧ m ≤ 140737488355328 ∧ (List.range m).all (fun i => okByte (f i)) = true then some (.s (.str ⟨(bytesOf f m).toArray⟩), σ.set g .dead) else none
      | _ => none)
    | _ => none
  | _, _ => none
/-- The functions that are told, by number. -/
def primF (f : FuncId) : Option (List V → Heap → Option (V × Heap)) :=
  bif Nat.beq f 48 then some idxPrim else bif Nat.beq f 15 then some itoaPrim else bif Nat.beq f 75 then some hasPrim else bif Nat.beq f 56 then some lowPrim else
  bif Nat.beq f 55 then some (copyPrim 59) else bif Nat.beq f 57 then some (growPrim 59 5) else bif Nat.beq f 29 then some (strPrim 59 5) else none
end Go.Am
/- The functions of this seat, as the abstract machine has them, together. -/
namespace Go.Proofs.YtlaogmemhephnaaDoor
open Go Go.Am
set_option maxRecDepth 100000
def fnsL : List (FuncId × AF) := [(3, a3), (4, a4), (5, a5), (6, a6), (8, a8), (9, a9), (11, a11), (12, a12), (13, a13), (14, a14), (19, a19), (20, a20), (21, a21), (22, a22), (23, a23), (25, a25), (26, a26), (27, a27), (28, a28), (30, a30), (31, a31), (37, a37), (38, a38), (39, a39), (40, a40), (41, a41), (42, a42), (43, a43), (44, a44), (45, a45), (46, a46), (47, a47), (49, a49), (50, a50), (51, a51), (52, a52), (53, a53), (54, a54), (62, a62), (63, a63), (65, a65)]
theorem goodL : GoodL Tryd.prog fnsL := ⟨⟨_, _, Tryd.func3, c3⟩, ⟨_, _, Tryd.func4, c4⟩, ⟨_, _, Tryd.func5, c5⟩, ⟨_, _, Tryd.func6, c6⟩, ⟨_, _, Tryd.func8, c8⟩, ⟨_, _, Tryd.func9, c9⟩, ⟨_, _, Tryd.func11, c11⟩, ⟨_, _, Tryd.func12, c12⟩, ⟨_, _, Tryd.func13, c13⟩, ⟨_, _, Tryd.func14, c14⟩, ⟨_, _, Tryd.func19, c19⟩, ⟨_, _, Tryd.func20, c20⟩, ⟨_, _, Tryd.func21, c21⟩, ⟨_, _, Tryd.func22, c22⟩, ⟨_, _, Tryd.func23, c23⟩, ⟨_, _, Tryd.func25, c25⟩, ⟨_, _, Tryd.func26, c26⟩, ⟨_, _, Tryd.func27, c27⟩, ⟨_, _, Tryd.func28, c28⟩, ⟨_, _, Tryd.func30, c30⟩, ⟨_, _, Tryd.func31, c31⟩, ⟨_, _, Tryd.func37, c37⟩, ⟨_, _, Tryd.func38, c38⟩, ⟨_, _, Tryd.func39, c39⟩, ⟨_, _, Tryd.func40, c40⟩, ⟨_, _, Tryd.func41, c41⟩, ⟨_, _, Tryd.func42, c42⟩, ⟨_, _, Tryd.func43, c43⟩, ⟨_, _, Tryd.func44, c44⟩, ⟨_, _, Tryd.func45, c45⟩, ⟨_, _, Tryd.func46, c46⟩, ⟨_, _, Tryd.func47, c47⟩, ⟨_, _, Tryd.func49, c49⟩, ⟨_, _, Tryd.func50, c50⟩, ⟨_, _, Tryd.func51, c51⟩, ⟨_, _, Tryd.func52, c52⟩, ⟨_, _, Tryd.func53, c53⟩, ⟨_, _, Tryd.func54, c54⟩, ⟨_, _, Tryd.func62, c62⟩, ⟨_, _, Tryd.func63, c63⟩, ⟨_, _, Tryd.func65, c65⟩, trivial⟩
def AM : AP := { fns := fun f => lookF f fnsL, prims := primF }
theorem fnsOK : FnsOK Tryd.prog AM := fun _ _ h => goodL_look goodL h
end Go.Proofs.YtlaogmemhephnaaDoor
/-
  DERIVED: THE SHELF's CONTRACTS AT THIS DUMP, IN PLAIN WORDS (tools/lay-plain.mjs out of 'YtlaogmemhephnaaDoorShelf.lean', which tools/lay-shelf.mjs wrote): THE SAME DECLARATIONS UNDER THE SAME NAMES: 'import', 'namespace', 'open', 'def', 'theorem' AND NOTHING ELSE: no command of the shelf's: FOR A HAND-IN. Each laying: the table of numbers ('.._ren') and one theorem, a field a fact of the dump's own or the kernel's comparison; each contract: ONE APPLICATION.
-/
namespace Go.Proofs
open Go.Shelf
def Tryd.lays169_ren : Go.Shelf.Ren := ⟨fun | 169 => 29 | n => n, fun | 70 => 56 | 9 => 9 | 0 => 0 | 72 => 59 | 37 => 57 | 127 => 88 | 3 => 3 | 5 => 5 | n => n, fun | n => n⟩
theorem Tryd.lays169 : Go.Proofs.Lays.n169 Tryd.prog Tryd.lays169_ren := {
  mixed := by kernel_rfl
  f169 := Tryd.func29.trans (congrArg some (by kernel_rfl))
  t0 := Tryd.underlying0
  a0 := Tryd.isAgg0
  z0 := Tryd.sizeOf0
  v0 := Tryd.zeroValue0
  t3 := Tryd.underlying3
  a3 := Tryd.isAgg3
  z3 := Tryd.sizeOf3
  v3 := Tryd.zeroValue3
  t9 := Tryd.underlying9
  a9 := Tryd.isAgg9
  z9 := Tryd.sizeOf9
  v9 := Tryd.zeroValue9
  t37 := Tryd.underlying57
  a37 := Tryd.isAgg57
  z37 := Tryd.sizeOf57
  v37 := Tryd.zeroValue57
  t70 := Tryd.underlying56
  a70 := Tryd.isAgg56
  z70 := Tryd.sizeOf56
  v70 := Tryd.zeroValue56
  t72 := Tryd.underlying59
  a72 := Tryd.isAgg59
  z72 := Tryd.sizeOf59
  v72 := Tryd.zeroValue59
  t127 := Tryd.underlying88
  a127 := Tryd.isAgg88
  z127 := Tryd.sizeOf88
  v127 := Tryd.zeroValue88 }
theorem Tryd.Builder_Extra_169 : Builder.Extra Tryd.prog Tryd.lays169_ren := {
  sizeBuilder := by kernel_rfl
  liesBuilder := by kernel_rfl
  t5 := Tryd.underlying5
  a5 := Tryd.isAgg5
  z5 := Tryd.sizeOf5
  v5 := Tryd.zeroValue5
  infoByte := by kernel_rfl
  cellsByte := by kernel_rfl
  sizeByte := by kernel_rfl
  neB5 := by decide }
open Go.RowKit in
/-- (*strings.Builder).String: "String returns the accumulated string.": WHATEVER THE BUILDER HOLDS. (LAID: no walk: one application.) -/
theorem Tryd.Builder_String_any (B b : Nat) (l : List UInt8) (w : World) (h : Lib.IsBuilder 59 5 B b (Lib.byteCells l) w) (hBw : B ≤ w.heap.size) :
    Calls Tryd.prog 29 #[.pointer (some ⟨b, 0, none⟩)] w fun e w' => e = .returned (.string ⟨l.toArray⟩) ∧ Below B w w' := Any.Builder_String_any Tryd.lays169 Tryd.Builder_Extra_169 B b l w h hBw
def Tryd.lays241_ren : Go.Shelf.Ren := ⟨fun | 241 => 57 | 277 => 70 | n => n, fun | 70 => 56 | 3 => 3 | 0 => 0 | 72 => 59 | 37 => 57 | 5 => 5 | n => n, fun | n => n⟩
def Tryd.lays165_ren : Go.Shelf.Ren := ⟨fun | 165 => 30 | 240 => 55 | 241 => 57 | 276 => 66 | 277 => 70 | n => n, fun | 70 => 56 | 3 => 3 | 0 => 0 | 4 => 4 | 9 => 9 | 20 => 20 | 72 => 59 | 37 => 57 | 164 => 93 | 5 => 5 | n => n, fun | n => n⟩
theorem Tryd.lays165 : Go.Proofs.Lays.n165 Tryd.prog Tryd.lays165_ren := {
  mixed := by kernel_rfl
  f165 := Tryd.func30.trans (congrArg some (by kernel_rfl))
  f240 := Tryd.func55.trans (congrArg some (by kernel_rfl))
  f241 := Tryd.func57.trans (congrArg some (by kernel_rfl))
  f276 := Tryd.func66.trans (congrArg some (by kernel_rfl))
  f277 := Tryd.func70.trans (congrArg some (by kernel_rfl))
  t0 := Tryd.underlying0
  a0 := Tryd.isAgg0
  z0 := Tryd.sizeOf0
  v0 := Tryd.zeroValue0
  t3 := Tryd.underlying3
  a3 := Tryd.isAgg3
  z3 := Tryd.sizeOf3
  v3 := Tryd.zeroValue3
  t4 := Tryd.underlying4
  a4 := Tryd.isAgg4
  z4 := Tryd.sizeOf4
  v4 := Tryd.zeroValue4
  t9 := Tryd.underlying9
  a9 := Tryd.isAgg9
  z9 := Tryd.sizeOf9
  v9 := Tryd.zeroValue9
  t20 := Tryd.underlying20
  a20 := Tryd.isAgg20
  z20 := Tryd.sizeOf20
  v20 := Tryd.zeroValue20
  t37 := Tryd.underlying57
  a37 := Tryd.isAgg57
  z37 := Tryd.sizeOf57
  v37 := Tryd.zeroValue57
  t70 := Tryd.underlying56
  a70 := Tryd.isAgg56
  z70 := Tryd.sizeOf56
  v70 := Tryd.zeroValue56
  t72 := Tryd.underlying59
  a72 := Tryd.isAgg59
  z72 := Tryd.sizeOf59
  v72 := Tryd.zeroValue59
  t164 := Tryd.underlying93
  a164 := Tryd.isAgg93
  z164 := Tryd.sizeOf93
  v164 := Tryd.zeroValue93 }
theorem Tryd.Builder_Extra_165 : Builder.Extra Tryd.prog Tryd.lays165_ren := {
  sizeBuilder := by kernel_rfl
  liesBuilder := by kernel_rfl
  t5 := Tryd.underlying5
  a5 := Tryd.isAgg5
  z5 := Tryd.sizeOf5
  v5 := Tryd.zeroValue5
  infoByte := by kernel_rfl
  cellsByte := by kernel_rfl
  sizeByte := by kernel_rfl
  neB5 := by decide }
open Go.RowKit in
/-- (*strings.Builder).Grow AT A BUILDER THAT HAS NOT BEEN WRITTEN ('var b strings.Builder; b.Grow(n)'): "Grow grows b's capacity, if necessary, to guarantee space for another n bytes.": it holds no byte behind it as before it. (LAID: no walk: one application.) -/
theorem Tryd.Builder_Grow_fresh (B b n : Nat) (w : World) (hB : B ≤ b) (hbk : w.heap[b]? = some (.cells #[.pointer none, .slice none 0 0] 59 (0, 0))) (hBw : B ≤ w.heap.size) (hn : n ≤ 281474976710656) :
    Calls Tryd.prog 30 #[.pointer (some ⟨b, 0, none⟩), .int .i64 n] w fun e w' => e = .returned (.tuple #[]) ∧ (Lib.BuilderAt 59 5 B b (.pointer (some ⟨b, 0, none⟩)) [] w' ∧ Below B w w') := Any.Builder_Grow_fresh Tryd.lays165 Tryd.Builder_Extra_165 B b n w hB hbk hBw hn
def Tryd.lays137_ren : Go.Shelf.Ren := ⟨fun | 137 => 48 | 217 => 64 | 266 => 76 | n => n, fun | 9 => 9 | 5 => 5 | 3 => 3 | n => n, fun | n => n⟩
theorem Tryd.lays137 : Go.Proofs.Lays.n137 Tryd.prog Tryd.lays137_ren := {
  mixed := by kernel_rfl
  f137 := Tryd.func48.trans (congrArg some (by kernel_rfl))
  f217 := Tryd.func64.trans (congrArg some (by kernel_rfl))
  f266 := Tryd.func76.trans (congrArg some (by kernel_rfl))
  t3 := Tryd.underlying3
  a3 := Tryd.isAgg3
  z3 := Tryd.sizeOf3
  v3 := Tryd.zeroValue3
  t5 := Tryd.underlying5
  a5 := Tryd.isAgg5
  z5 := Tryd.sizeOf5
  v5 := Tryd.zeroValue5
  t9 := Tryd.underlying9
  a9 := Tryd.isAgg9
  z9 := Tryd.sizeOf9
  v9 := Tryd.zeroValue9 }
open Go.RowKit in
/-- strings.IndexByte: "IndexByte returns the index of the first instance of c in s, or -1 if c is not present in s.": IT RETURNS 'Lib.indexByte s c'; the world is as it was. (LAID: no walk: one application.) -/
theorem Tryd.strings_IndexByte (s : ByteArray) (c : Int) (w : World) :
    Calls Tryd.prog 48 #[.string s, .int .u8 c] w fun e w' => e = .returned (.int .i64 (Lib.indexByte s.data.toList c.toNat.toUInt8)) ∧ w' = w := Any.strings_IndexByte Tryd.lays137 s c w
def Tryd.laysM171_ren : Go.Shelf.Ren := ⟨fun | 171 => 15 | 243 => 32 | 246 => 58 | 283 => 71 | 284 => 72 | 285 => 73 | 286 => 74 | 129 => 83 | 317 => 82 | 318 => 84 | 319 => 85 | 320 => 86 | 337 => 91 | 338 => 92 | n => n, fun | 3 => 3 | 9 => 9 | 2 => 2 | 4 => 4 | 171 => 99 | 0 => 0 | 53 => 100 | 37 => 57 | 5 => 5 | 173 => 103 | 212 => 113 | 51 => 114 | 20 => 20 | 213 => 115 | 46 => 106 | 232 => 130 | 233 => 131 | n => n, fun | 17 => 1 | 18 => 5 | 19 => 6 | n => n⟩
theorem Tryd.laysM171 : Go.Proofs.LaysM.n171 Tryd.prog Tryd.laysM171_ren := {
  mixed := by kernel_rfl
  f129 := Tryd.func83.trans (congrArg some (by kernel_rfl))
  f171 := Tryd.func15.trans (congrArg some (by kernel_rfl))
  f243 := Tryd.func32.trans (congrArg some (by kernel_rfl))
  f246 := Tryd.func58.trans (congrArg some (by kernel_rfl))
  f283 := Tryd.func71.trans (congrArg some (by kernel_rfl))
  f284 := Tryd.func72.trans (congrArg some (by kernel_rfl))
  f285 := Tryd.func73.trans (congrArg some (by kernel_rfl))
  f286 := Tryd.func74.trans (congrArg some (by kernel_rfl))
  f317 := Tryd.func82.trans (congrArg some (by kernel_rfl))
  f318 := Tryd.func84.trans (congrArg some (by kernel_rfl))
  f319 := Tryd.func85.trans (congrArg some (by kernel_rfl))
  f320 := Tryd.func86.trans (congrArg some (by kernel_rfl))
  f337 := Tryd.func91.trans (congrArg some (by kernel_rfl))
  f338 := Tryd.func92.trans (congrArg some (by kernel_rfl))
  t0 := Tryd.underlying0
  a0 := Tryd.isAgg0
  z0 := Tryd.sizeOf0
  v0 := Tryd.zeroValue0
  t2 := Tryd.underlying2
  a2 := Tryd.isAgg2
  z2 := Tryd.sizeOf2
  v2 := Tryd.zeroValue2
  t3 := Tryd.underlying3
  a3 := Tryd.isAgg3
  z3 := Tryd.sizeOf3
  v3 := Tryd.zeroValue3
  t4 := Tryd.underlying4
  a4 := Tryd.isAgg4
  z4 := Tryd.sizeOf4
  v4 := Tryd.zeroValue4
  t5 := Tryd.underlying5
  a5 := Tryd.isAgg5
  z5 := Tryd.sizeOf5
  v5 := Tryd.zeroValue5
  t9 := Tryd.underlying9
  a9 := Tryd.isAgg9
  z9 := Tryd.sizeOf9
  v9 := Tryd.zeroValue9
  t20 := Tryd.underlying20
  a20 := Tryd.isAgg20
  z20 := Tryd.sizeOf20
  v20 := Tryd.zeroValue20
  t37 := Tryd.underlying57
  a37 := Tryd.isAgg57
  z37 := Tryd.sizeOf57
  v37 := Tryd.zeroValue57
  t46 := Tryd.underlying106
  a46 := Tryd.isAgg106
  z46 := Tryd.sizeOf106
  v46 := Tryd.zeroValue106
  t51 := Tryd.underlying114
  a51 := Tryd.isAgg114
  z51 := Tryd.sizeOf114
  v51 := Tryd.zeroValue114
  t53 := Tryd.underlying100
  a53 := Tryd.isAgg100
  z53 := Tryd.sizeOf100
  v53 := Tryd.zeroValue100
  t171 := Tryd.underlying99
  a171 := Tryd.isAgg99
  z171 := Tryd.sizeOf99
  v171 := Tryd.zeroValue99
  t173 := Tryd.underlying103
  a173 := Tryd.isAgg103
  z173 := Tryd.sizeOf103
  v173 := Tryd.zeroValue103
  t212 := Tryd.underlying113
  a212 := Tryd.isAgg113
  z212 := Tryd.sizeOf113
  v212 := Tryd.zeroValue113
  t213 := Tryd.underlying115
  a213 := Tryd.isAgg115
  z213 := Tryd.sizeOf115
  t232 := Tryd.underlying130
  a232 := Tryd.isAgg130
  z232 := Tryd.sizeOf130
  v232 := Tryd.zeroValue130
  t233 := Tryd.underlying131
  a233 := Tryd.isAgg131
  z233 := Tryd.sizeOf131
  v233 := Tryd.zeroValue131
  g17 := by kernel_rfl
  g18 := by kernel_rfl
  g19 := by kernel_rfl
  i0 := by kernel_rfl
  i2 := by kernel_rfl
  i3 := by kernel_rfl
  i4 := by kernel_rfl
  i5 := by kernel_rfl
  i9 := by kernel_rfl
  i20 := by kernel_rfl
  i37 := by kernel_rfl
  i46 := by kernel_rfl
  i51 := by kernel_rfl
  i53 := by kernel_rfl
  i171 := by kernel_rfl
  i173 := by kernel_rfl
  i212 := by kernel_rfl
  i232 := by kernel_rfl
  i233 := by kernel_rfl
  m17 := by kernel_rfl
  m18 := by kernel_rfl
  m19 := by kernel_rfl }
open Go.RowKit Go.Sort Go.Lib in
/-- strconv.Itoa: "Itoa is equivalent to FormatInt(int64(i), 10).": i's DECIMAL NUMERAL ('Lib.itoa': a '-' where i is negative, then the digits), FOR EVERY int. The world behind the call: the world before it, new blocks behind the heap (the library's 'var a [24]byte'), draws. (LAID: no walk: one application.) -/
theorem Tryd.strconv_Itoa (n : Int) (h0 : -9223372036854775808 ≤ n) (h1 : n ≤ 9223372036854775807) (w : World) (htab : Lib.TabIs Tryd.prog w "internal/strconv.uint64pow10" .u64 Lib.pow10Tab) :
    Calls Tryd.prog 15 #[.int .i64 n] w fun e w' => e = .returned (.string ⟨(Lib.itoa n).toArray⟩) ∧ ∃ k os, w' = grow (w.drewN k) os := Any.strconv_Itoa Tryd.laysM171 n h0 h1 w htab
def Tryd.lays144_ren : Go.Shelf.Ren := ⟨fun | 144 => 75 | 143 => 87 | 219 => 93 | 217 => 64 | 225 => 97 | 224 => 98 | 267 => 99 | 266 => 76 | 314 => 100 | n => n, fun | 9 => 9 | 4 => 4 | 3 => 3 | 5 => 5 | 46 => 106 | 146 => 136 | 51 => 114 | n => n, fun | 1 => 0 | n => n⟩
theorem Tryd.lays144 : Go.Proofs.Lays.n144 Tryd.prog Tryd.lays144_ren := {
  mixed := by kernel_rfl
  f143 := Tryd.func87.trans (congrArg some (by kernel_rfl))
  f144 := Tryd.func75.trans (congrArg some (by kernel_rfl))
  f217 := Tryd.func64.trans (congrArg some (by kernel_rfl))
  f219 := Tryd.func93.trans (congrArg some (by kernel_rfl))
  f224 := Tryd.func98.trans (congrArg some (by kernel_rfl))
  f225 := Tryd.func97.trans (congrArg some (by kernel_rfl))
  f266 := Tryd.func76.trans (congrArg some (by kernel_rfl))
  f267 := Tryd.func99.trans (congrArg some (by kernel_rfl))
  f314 := Tryd.func100.trans (congrArg some (by kernel_rfl))
  t3 := Tryd.underlying3
  a3 := Tryd.isAgg3
  z3 := Tryd.sizeOf3
  v3 := Tryd.zeroValue3
  t4 := Tryd.underlying4
  a4 := Tryd.isAgg4
  z4 := Tryd.sizeOf4
  v4 := Tryd.zeroValue4
  t5 := Tryd.underlying5
  a5 := Tryd.isAgg5
  z5 := Tryd.sizeOf5
  v5 := Tryd.zeroValue5
  t9 := Tryd.underlying9
  a9 := Tryd.isAgg9
  z9 := Tryd.sizeOf9
  v9 := Tryd.zeroValue9
  t46 := Tryd.underlying106
  a46 := Tryd.isAgg106
  z46 := Tryd.sizeOf106
  v46 := Tryd.zeroValue106
  t51 := Tryd.underlying114
  a51 := Tryd.isAgg114
  z51 := Tryd.sizeOf114
  v51 := Tryd.zeroValue114
  t146 := Tryd.underlying136
  a146 := Tryd.isAgg136
  z146 := Tryd.sizeOf136
  v146 := Tryd.zeroValue136
  g1 := by kernel_rfl }
open Go.RowKit Go.Lib in
/-- strings.Contains: "Contains reports whether substr is within s.": AT A substr OF ONE BYTE c: IT RETURNS 'decide (0 ≤ Lib.indexByte s c)'; the world is as it was. (LAID: no walk: one application.) -/
theorem Tryd.strings_Contains_one (s : ByteArray) (c : UInt8) (w : World) :
    Calls Tryd.prog 75 #[.string s, .string ⟨#[c]⟩] w fun e w' => e = .returned (.bool (decide (0 ≤ Lib.indexByte s.data.toList c))) ∧ w' = w := Any.strings_Contains_one Tryd.lays144 s c w
end Go.Proofs
/- strings.Builder at this program: what each method does to the world, told whole. -/
set_option linter.unusedVariables false
namespace Go.Proofs
open Go Go.Shelf Go.RowKit

def Tryd.ren167 : Go.Shelf.Ren := ⟨fun | 167 => 67 | 240 => 55 | 276 => 66 | n => n, fun | 0 => 0 | 4 => 4 | 5 => 5 | 9 => 9 | 20 => 20 | 37 => 57 | 70 => 56 | 72 => 59 | 75 => 62 | 80 => 45 | 164 => 93 | n => n, fun | n => n⟩

theorem Tryd.lays167 : Go.Proofs.Lays.n167 Tryd.prog Tryd.ren167 where
  mixed := by kernel_rfl
  f167 := Tryd.func67.trans (congrArg some (by kernel_rfl))
  f240 := Tryd.lays165.f240
  f276 := Tryd.lays165.f276
  t0 := Tryd.underlying0
  a0 := Tryd.isAgg0
  z0 := Tryd.sizeOf0
  v0 := Tryd.zeroValue0
  t4 := Tryd.underlying4
  a4 := Tryd.isAgg4
  z4 := Tryd.sizeOf4
  v4 := Tryd.zeroValue4
  t5 := Tryd.underlying5
  a5 := Tryd.isAgg5
  z5 := Tryd.sizeOf5
  v5 := Tryd.zeroValue5
  t9 := Tryd.underlying9
  a9 := Tryd.isAgg9
  z9 := Tryd.sizeOf9
  v9 := Tryd.zeroValue9
  t20 := Tryd.underlying20
  a20 := Tryd.isAgg20
  z20 := Tryd.sizeOf20
  v20 := Tryd.zeroValue20
  t37 := Tryd.underlying57
  a37 := Tryd.isAgg57
  z37 := Tryd.sizeOf57
  v37 := Tryd.zeroValue57
  t70 := Tryd.underlying56
  a70 := Tryd.isAgg56
  z70 := Tryd.sizeOf56
  v70 := Tryd.zeroValue56
  t72 := Tryd.underlying59
  a72 := Tryd.isAgg59
  z72 := Tryd.sizeOf59
  v72 := Tryd.zeroValue59
  t75 := Tryd.underlying62
  a75 := Tryd.isAgg62
  z75 := Tryd.sizeOf62
  v75 := Tryd.zeroValue62
  t164 := Tryd.underlying93
  a164 := Tryd.isAgg93
  z164 := Tryd.sizeOf93
  v164 := Tryd.zeroValue93

theorem Tryd.extra167 : Builder.Extra Tryd.prog Tryd.ren167 where
  sizeBuilder := by kernel_rfl
  liesBuilder := by kernel_rfl
  t5 := Tryd.underlying5
  a5 := Tryd.isAgg5
  z5 := Tryd.sizeOf5
  v5 := Tryd.zeroValue5
  infoByte := by kernel_rfl
  cellsByte := by kernel_rfl
  sizeByte := by kernel_rfl
  neB5 := by decide

theorem Tryd.copyFresh (b : Nat) (w : World) (h0 : w.cell? ⟨b, 0, none⟩ = some (.pointer none)) (hsh : w.shape? b = some (59, 2)) (hfz : w.frozen? ⟨b, 0, none⟩ = false) :
    Calls Tryd.prog 55 #[.pointer (some ⟨b, 0, none⟩)] w fun e w' => e = .returned (.tuple #[]) ∧ w' = w.setCell ⟨b, 0, none⟩ (.pointer (some ⟨b, 0, none⟩)) :=
  Any.Builder_copyCheck_fresh (ρ := Tryd.ren167) { Tryd.lays167 with } Tryd.extra167.toX72 b w h0 hsh hfz

theorem Tryd.copyUsed (b : Nat) (w : World) (h0 : w.cell? ⟨b, 0, none⟩ = some (.pointer (some ⟨b, 0, none⟩))) :
    Calls Tryd.prog 55 #[.pointer (some ⟨b, 0, none⟩)] w fun e w' => e = .returned (.tuple #[]) ∧ w' = w :=
  Any.Builder_copyCheck_used (ρ := Tryd.ren167) { Tryd.lays167 with } Tryd.extra167.toX72 b w h0

set_option maxHeartbeats 1000000 in
set_option maxRecDepth 100000 in
/-- What is read of a builder with bytes: the bytes are frozen. -/
theorem Tryd.readAll (b g cap : Nat) (p : Value) (cur : Array Value) (l : List UInt8) (w : World) (hbk : w.heap[b]? = some (.cells #[p, .slice (some ⟨g, 0, none⟩) l.length cap] 59 (0, 0))) (hg : w.heap[g]? = some (.cells cur 5 (0, 0)))
    (h0 : l ≠ []) (hc : l.length ≤ cap) (hm : l.length ≤ maxLen) (hcs : cur.size = cap) (hl : ∀ (j : Nat) x, l[j]? = some x → cur[j]? = some (.int .u8 x.toNat)) :
    Calls Tryd.prog 29 #[.pointer (some ⟨b, 0, none⟩)] w fun e w' => e = .returned (.string ⟨l.toArray⟩) ∧ w' = w.drew.freeze ⟨g, 0, none⟩ l.length := by
  have hl0 : l.length ≠ 0 := by simpa using h0
  have c1 : w.drew.cell? ⟨b, 1, none⟩ = some (.slice (some ⟨g, 0, none⟩) l.length cap) := by
    have : w.drew.heap[b]? = some (.cells #[p, .slice (some ⟨g, 0, none⟩) l.length cap] 59 (0, 0)) := hbk
    rw [Lib.cell_of_heap this]; rfl
  have hSD : (Builtin.unsafeSliceData_ #[57] 88 #[.slice (some ⟨g, 0, none⟩) l.length cap]).run Tryd.prog w.drew = .ok (.pointer (some ⟨g, 0, none⟩)) w.drew :=
    Lib.run_unsafeSliceData_row _ _ _ _ _ _ (by omega)
  have hUS : (Builtin.unsafeString_ #[88, 3] 9 #[.pointer (some ⟨g, 0, none⟩), .int .i64 l.length]).run Tryd.prog w.drew = .ok (.string ⟨l.toArray⟩) (w.drew.freeze ⟨g, 0, none⟩ l.length) := by
    refine Lib.run_unsafeString_row w.drew 88 3 9 5 Tryd.underlying88 Tryd.extra167.cellsByte g cur.size (by have hg' : w.drew.heap[g]? = some (.cells cur 5 (0, 0)) := hg; simp [World.shape?, hg']) l h0 (by omega) (by unfold maxLen at hm; omega) ?_
    intro j x hx
    have hg' : w.drew.heap[g]? = some (.cells cur 5 (0, 0)) := hg
    have ea : Addr.add ⟨g, 0, none⟩ j = ⟨g, j, none⟩ := by
      unfold Addr.add
      split
      · rename_i h; rw [h]
      · simp
    rw [ea, Lib.cell_of_heap hg']
    exact hl j x hx
  have mixed := Tryd.lays167.mixed
  go_enter Tryd.func29, Tryd.ntmps29
  go_wp2
  go_region_o
  all_goals (go_wp2; go_ret; exact ⟨rfl, rfl⟩)

set_option maxHeartbeats 2000000 in
set_option maxRecDepth 1000000 in
/-- grow, of a builder without a buffer. -/
theorem Tryd.growFresh (b n : Nat) (w : World) (hbk : w.heap[b]? = some (.cells #[.pointer (some ⟨b, 0, none⟩), .slice none 0 0] 59 (0, 0))) (hn : n ≤ 281474976710656) :
    Calls Tryd.prog 57 #[.pointer (some ⟨b, 0, none⟩), .int .i64 n] w fun e w' => e = .returned (.tuple #[]) ∧ ∃ cs : Array Value, n ≤ cs.size ∧ cs.size ≤ maxLen ∧ w' = ((w.setCell ⟨b, 1, none⟩ (.slice (some ⟨w.heap.size, 0, none⟩) 0 cs.size)).alloc (.cells cs 5)).drew.drew.drew := by
  obtain ⟨cs, hrun, hle, hmax⟩ := Lib.run_makeNoZero (P := Tryd.prog) w.drew #[3] 57 5 Tryd.underlying57 n hn
  have hw : IntKind.i64.wrap (IntKind.i64.wrap 0 + (n : Int)) = n := by
    rw [IntKind.wrap_i64, IntKind.wrap_i64]
    omega
  have hcall : (callFunc 70 #[.int .i64 (IntKind.i64.wrap (IntKind.i64.wrap 0 + (n : Int)))]).run Tryd.prog w.drew = .ok (.value (.slice (some ⟨w.drew.heap.size, 0, none⟩) n cs.size)) (w.drew.drew.drew.alloc (.cells cs 5)) := by
    rw [hw, run_callFunc_extern Tryd.func70 (by kernel_rfl) (by kernel_rfl) (by kernel_rfl) (e := Extern.BytealgMakeNoZero.makeNoZero #[3] #[57]) (by kernel_rfl), hrun]
    rfl
  have hlt : b < w.heap.size := by
    rcases Nat.lt_or_ge b w.heap.size with h' | h'
    · exact h'
    · simp [Array.getElem?_eq_none h'] at hbk
  have c1 : w.drew.cell? ⟨b, 1, none⟩ = some (.slice none 0 0) := by
    have : w.drew.heap[b]? = _ := hbk
    rw [Lib.cell_of_heap this]; rfl
  have c2 : (w.alloc (.cells cs 5)).cell? ⟨b, 1, none⟩ = some (.slice none 0 0) := by
    rw [Lib.cell_of_heap ((Lib.alloc_old w _ b hlt).trans hbk)]; rfl
  have f2 : (w.alloc (.cells cs 5)).frozen? ⟨b, 1, none⟩ = false := Lib.frozen_of_heap ((Lib.alloc_old w _ b hlt).trans hbk) 1
  have hcopy : ∀ W : World, (Builtin.copy_ #[57, 57] 3 #[.slice (some ⟨w.heap.size, 0, none⟩) 0 cs.size, .slice none 0 0]).run Tryd.prog W = .ok (goInt 0) W :=
    fun W => run_copy_none W 57 57 3 5 _ _ 0 cs.size 0 0 Tryd.underlying57 Tryd.extra167.sizeByte rfl
  clear hw
  have mixed := Tryd.lays167.mixed
  go_enter Tryd.func57, Tryd.ntmps57
  go_wp2
  go_region_o
  all_goals (go_wp2; go_end0; exact ⟨rfl, cs, hle, hmax (by unfold maxLen; omega), rfl⟩)

end Go.Proofs
/- strings.ToLower of one letter. -/
set_option linter.unusedVariables false
namespace Go.Proofs
open Go Go.Shelf Go.RowKit

theorem Tryd.growOne (w : World) : Calls Tryd.prog 30 #[.pointer (some ⟨w.heap.size, 0, none⟩), .int .i64 1] (w.alloc (.cells #[.pointer none, .slice none 0 0] 59)) fun e w' => e = .returned (.tuple #[]) ∧ (Lib.BuilderAt 59 5 w.heap.size w.heap.size (.pointer (some ⟨w.heap.size, 0, none⟩)) [] w' ∧ Below w.heap.size w w') :=
  (Tryd.Builder_Grow_fresh w.heap.size w.heap.size 1 (w.alloc (.cells #[.pointer none, .slice none 0 0] 59)) (Nat.le_refl _) (Go.heap_alloc_new w _) (by simp) (by omega)).mono fun e w' ⟨h1, h2, h3⟩ => ⟨h1, h2, ((Below.refl _ w).alloc (Nat.le_refl _) _).trans h3⟩

theorem Tryd.writeOne (w w1 : World) (c : Int) (h1 : Lib.BuilderAt 59 5 w.heap.size w.heap.size (.pointer (some ⟨w.heap.size, 0, none⟩)) [] w1) (hb : Below w.heap.size w w1) : Calls Tryd.prog 67 #[.pointer (some ⟨w.heap.size, 0, none⟩), .int .u8 c] w1 fun e w' => e = .returned .nilIface ∧ Lib.BuilderAt 59 5 w.heap.size w.heap.size (.pointer (some ⟨w.heap.size, 0, none⟩)) [.int .u8 c] w' ∧ Below w.heap.size w w' :=
  (Any.Builder_WriteByte (ρ := Tryd.ren167) Tryd.lays167 Tryd.extra167 w.heap.size w.heap.size [] c w1 (.inr h1) (by simp) hb.size).mono fun e w' ⟨h1, h2, h3⟩ => ⟨h1, h2, hb.trans h3⟩

theorem Tryd.readOne (w w1 : World) (c : UInt8) (h1 : Lib.BuilderAt 59 5 w.heap.size w.heap.size (.pointer (some ⟨w.heap.size, 0, none⟩)) [.int .u8 c.toNat] w1) (hb : Below w.heap.size w w1) : Calls Tryd.prog 29 #[.pointer (some ⟨w.heap.size, 0, none⟩)] w1 fun e w' => e = .returned (.string ⟨#[c]⟩) ∧ Below w.heap.size w w' :=
  (Tryd.Builder_String_any w.heap.size w.heap.size [c] w1 (.inr h1) hb.size).mono fun e w' ⟨h1, h3⟩ => ⟨h1, hb.trans h3⟩

set_option maxHeartbeats 2000000 in
set_option maxRecDepth 1000000 in
theorem Tryd.lowOne (c : UInt8) (w : World) (h0 : 65 ≤ c.toNat) (h9 : c.toNat ≤ 90) :
    Calls Tryd.prog 56 #[.string ⟨#[c]⟩] w fun e w' => e = .returned (.string ⟨#[c + 32]⟩) ∧ Below w.heap.size w w' := by
  have mixed := Tryd.lays167.mixed
  have e1 : (⟨#[c]⟩ : ByteArray).size = 1 := rfl
  have e0 : ∀ h, (⟨#[c]⟩ : ByteArray)[0]'h = c := fun _ => rfl
  have ec : ((c + 32).toNat : Int) = c.toNat + 32 := by
    have : (c + 32).toNat = (c.toNat + 32) % 256 := UInt8.toNat_add c 32
    omega
  go_enter Tryd.func56, Tryd.ntmps56
  go_wp2
  refine wp_loop_rounds 2 ?_
  simp only [Code.rounds]
  go_wp2_with (go_at_call 30; refine (Tryd.growOne w).mono ?_; rintro e w1 ⟨rfl, h1, hb1⟩)
  all_goals first
    | (exfalso; rename_i h; simp at h; omega)
    | skip
  refine wp_loop_rounds 2 ?_
  simp only [Code.rounds]
  go_wp2_with (first | (go_at_call 67; refine (Tryd.writeOne w w1 _ h1 hb1).mono ?_; rintro e w2 ⟨rfl, h2, hb2⟩) | (go_at_call 29; refine (Tryd.readOne w w2 (c + 32) (by rw [ec]; exact h2) hb2).mono ?_; rintro e w3 ⟨rfl, hb3⟩))
  all_goals first
    | (exfalso; rename_i h; simp at h; omega)
    | (go_ret; exact ⟨rfl, hb3⟩)
    | trace_state
end Go.Proofs
/- The library's functions do what is told of them. -/
namespace Go.Proofs.YtlaogmemhephnaaDoor
open Go Go.Am Go.RowKit

/-- A call that leaves what there was. -/
theorem post_below [Bas] {ι : Inj} {σ : Heap} {W W' : World} (hR : RelW ι σ W) (hb : Below W.heap.size W W') : Post ι σ W ι σ W' :=
  QPost.post ⟨⟨hb.os, hb.tape, hb.output, hb.size⟩, .refl ι, ⟨fun b p h => Nat.lt_of_lt_of_le (hR.lt b p h) hb.size, fun b p x h hx => (hR.blk b p x h hx).keep (.refl ι) (hb.block _ (hR.lt b p h)), hR.sep, hR.gap, Nat.le_trans hR.bsz hb.size, fun c hc => (hb.block c (Nat.lt_of_lt_of_le hc hR.bsz)).trans (hR.bas c hc)⟩, ⟨[], by simp⟩, fun c hc => hb.block c hc, fun b p h hn => by rw [h] at hn; cases hn⟩

/-- The library's table of powers stands in the world at the begin. -/
class Tabs extends Bas where
  pow : Lib.TabIs Tryd.prog w "internal/strconv.uint64pow10" .u64 Lib.pow10Tab

theorem pow_of [B : Tabs] {ι : Inj} {σ : Heap} {W : World} (hR : RelW ι σ W) : Lib.TabIs Tryd.prog W "internal/strconv.uint64pow10" .u64 Lib.pow10Tab := by
  have h := B.pow
  unfold Lib.TabIs World.var? at h ⊢
  cases hg : Tryd.prog.globalNamed "internal/strconv.uint64pow10" with
  | none => rw [hg] at h; cases h
  | some g =>
    rw [hg] at h
    simp only [Option.bind_some] at h ⊢
    have hlt : g < B.w.heap.size := by
      rcases Nat.lt_or_ge g B.w.heap.size with q | q
      · exact q
      · rw [Array.getElem?_eq_none q] at h; cases h
    rw [hR.bas g hlt]
    exact h

section
variable {σ σ' : Heap} {args : List V} {v : V} {ι : Inj} {W : World} {av : List Value}

theorem idx_ok [Bas] (h : idxPrim args σ = some (v, σ')) (hR : RelW ι σ W) (hv : VRL ι args av) :
    Calls Tryd.prog 48 av.toArray W fun e W' => ∃ ι' v', e = .returned v' ∧ VR ι' v v' ∧ Post ι σ W ι' σ' W' := by
  unfold idxPrim at h
  split at h
  · injection h with h
    injection h with h1 h2
    subst h1; subst h2
    simp only [VRL, VR, S.val] at hv
    obtain ⟨_, _, rfl, rfl, _, _, rfl, rfl, rfl⟩ := hv
    refine (Tryd.strings_IndexByte _ _ W).mono ?_
    rintro e W' ⟨rfl, rfl⟩
    exact ⟨ι, _, rfl, by simp only [VR, S.val], (QPost.refl hR).post⟩
  · cases h

theorem itoa_ok [Tabs] (h : itoaPrim args σ = some (v, σ')) (hR : RelW ι σ W) (hv : VRL ι args av) :
    Calls Tryd.prog 15 av.toArray W fun e W' => ∃ ι' v', e = .returned v' ∧ VR ι' v v' ∧ Post ι σ W ι' σ' W' := by
  unfold itoaPrim at h
  split at h
  · split at h
    · rename_i hb
      injection h with h
      injection h with h1 h2
      subst h1; subst h2
      simp only [VRL, VR, S.val] at hv
      obtain ⟨_, _, rfl, rfl, rfl⟩ := hv
      refine (Tryd.strconv_Itoa _ hb.1 hb.2 W (pow_of hR)).mono ?_
      rintro e W' ⟨rfl, k, os, rfl⟩
      exact ⟨ι, _, rfl, by simp only [VR, S.val], post_below hR (Lib.below_grow _ _ (Nat.le_refl _) k os)⟩
    · cases h
  · cases h

theorem has_ok [Bas] (h : hasPrim args σ = some (v, σ')) (hR : RelW ι σ W) (hv : VRL ι args av) :
    Calls Tryd.prog 75 av.toArray W fun e W' => ∃ ι' v', e = .returned v' ∧ VR ι' v v' ∧ Post ι σ W ι' σ' W' := by
  unfold hasPrim at h
  split at h
  · rename_i s t
    split at h
    · rename_i hb
      injection h with h
      injection h with h1 h2
      subst h1; subst h2
      simp only [VRL, VR, S.val] at hv
      obtain ⟨_, _, rfl, rfl, _, _, rfl, rfl, rfl⟩ := hv
      have ht : t = ⟨#[t.data.getD 0 0]⟩ := by
        obtain ⟨⟨l⟩⟩ := t
        match l, hb with
        | [x], _ => rfl
      rw [ht]
      refine (Tryd.strings_Contains_one _ _ W).mono ?_
      rintro e W' ⟨rfl, rfl⟩
      exact ⟨ι, _, rfl, rfl, (QPost.refl hR).post⟩
    · cases h
  · cases h

theorem low_ok [Bas] (h : lowPrim args σ = some (v, σ')) (hR : RelW ι σ W) (hv : VRL ι args av) :
    Calls Tryd.prog 56 av.toArray W fun e W' => ∃ ι' v', e = .returned v' ∧ VR ι' v v' ∧ Post ι σ W ι' σ' W' := by
  unfold lowPrim at h
  split at h
  · rename_i t
    split at h
    · rename_i hb
      injection h with h
      injection h with h1 h2
      subst h1; subst h2
      simp only [VRL, VR, S.val] at hv
      obtain ⟨_, _, rfl, rfl, rfl⟩ := hv
      have ht : t = ⟨#[t.data.getD 0 0]⟩ := by
        obtain ⟨⟨l⟩⟩ := t
        match l, hb.1 with
        | [x], _ => rfl
      rw [ht]
      refine (Tryd.lowOne _ W hb.2.1 hb.2.2).mono ?_
      rintro e W' ⟨rfl, hbl⟩
      exact ⟨ι, _, rfl, rfl, post_below hR hbl⟩
    · cases h
  · cases h

/-! ### Builders -/

/-- A builder's block. -/
theorem bld_blk {t : TypeId} {b : Nat} {x y : V} {p : Am.Place} [Bas] (hR : RelW ι σ W) (hp : ι b = some p) (hb : σ[b]? = some (.vs (.ty t) [x, y])) :
    p.base = 0 ∧ p.n = 2 ∧ ∃ u0 u1, W.heap[p.c]? = some (.cells #[u0, u1] t (0, 0)) ∧ VR ι x u0 ∧ VR ι y u1 := by
  obtain ⟨h1, h2, h3⟩ := hR.blk b p _ hp hb
  obtain ⟨hb0, hle, cs, T, hc, hs, hT, hsz⟩ := h3 rfl
  obtain rfl : T = t := hT
  have hn : p.n = 2 := h1.symm
  have h0 := h2 0 x rfl
  have h1' := h2 1 y rfl
  obtain ⟨u0, hu0, r0⟩ := h0
  obtain ⟨u1, hu1, r1⟩ := h1'
  have hcs : cs.size = 2 := by omega
  rw [hb0] at hu0 hu1
  rw [Lib.cell_of_heap hc] at hu0 hu1
  obtain ⟨l⟩ := cs
  match l, hcs with
  | [a, c], _ =>
    simp at hu0 hu1
    subst hu0; subst hu1
    exact ⟨hb0, hn, a, c, hc, r0, r1⟩

theorem copy_ok [Bas] (h : copyPrim 59 args σ = some (v, σ')) (hR : RelW ι σ W) (hv : VRL ι args av) :
    Calls Tryd.prog 55 av.toArray W fun e W' => ∃ ι' v', e = .returned v' ∧ VR ι' v v' ∧ Post ι σ W ι' σ' W' := by
  unfold copyPrim at h
  split at h
  · rename_i b
    simp only [VRL, VR] at hv
    obtain ⟨_, _, rfl, ⟨p, hp, hz, rfl⟩, rfl⟩ := hv
    split at h
    · rename_i t x hb
      split at h
      · rename_i ht
        subst ht
        injection h with h
        injection h with h1 h2
        subst h1; subst h2
        obtain ⟨hb0, hn, u0, u1, hc, r0, r1⟩ := bld_blk hR hp hb
        simp only [VR] at r0
        subst r0
        rw [hb0, Nat.zero_add]
        refine (Tryd.copyFresh p.c W (by rw [Lib.cell_of_heap hc]; rfl) (by simp [World.shape?, hc]) (Lib.frozen_of_heap hc 0)).mono ?_
        rintro e W' ⟨rfl, rfl⟩
        have hw : (W.setCell ⟨p.c, 0, none⟩ (.pointer (some ⟨p.c, 0, none⟩))).heap[p.c]? = some (.cells #[.pointer (some ⟨p.c, 0, none⟩), u1] 59 (0, 0)) := by
          simp [World.setCell, Array.getElem?_modify, hc]
        refine ⟨ι, _, rfl, ⟨[], rfl, rfl⟩, eff_set hR hp hb rfl ⟨rfl, rfl, rfl, by simp⟩ (fun c hne => by simp [World.setCell, Array.getElem?_modify, Ne.symm hne]) ⟨hn.symm, fun i y hy => ?_, fun _ => ⟨hb0, by have := hR.blk b p _ hp hb; obtain ⟨_, _, h3⟩ := this; exact (h3 rfl).2.1, _, _, hw, ?_, rfl, ?_⟩⟩⟩
        · rw [hb0, Nat.zero_add, Lib.cell_of_heap hw]
          match i, hy with
          | 0, hy => simp at hy; subst hy; exact ⟨_, rfl, by simp only [VR]; exact ⟨p, hp, hz, by rw [hb0]; rfl⟩⟩
          | 1, hy => simp at hy; subst hy; exact ⟨_, rfl, r1⟩
          | i + 2, hy => simp at hy
        · obtain ⟨_, _, h3⟩ := hR.blk b p _ hp hb
          obtain ⟨_, _, cs, T, hc2, hs, _, hsz⟩ := h3 rfl
          rw [hsz, hn]; rfl
        · obtain ⟨_, _, h3⟩ := hR.blk b p _ hp hb
          obtain ⟨_, _, cs, T, hc2, hs, _, hsz⟩ := h3 rfl
          exact hsz
      · cases h
    · rename_i t c x hb
      split at h
      · rename_i ht
        obtain ⟨rfl, rfl⟩ := ht
        injection h with h
        injection h with h1 h2
        subst h1; subst h2
        obtain ⟨hb0, hn, u0, u1, hc, r0, r1⟩ := bld_blk hR hp hb
        simp only [VR] at r0
        obtain ⟨p', hp', _, rfl⟩ := r0
        rw [hp] at hp'
        injection hp' with hp'
        subst hp'
        rw [hb0, Nat.zero_add]
        rw [hb0] at hc
        refine (Tryd.copyUsed p.c W (by rw [Lib.cell_of_heap hc]; rfl)).mono ?_
        rintro e W' ⟨rfl, rfl⟩
        exact ⟨ι, _, rfl, ⟨[], rfl, rfl⟩, (QPost.refl hR).post⟩
      · cases h
    · cases h
  · cases h

theorem grow_ok [Bas] (h : growPrim 59 5 args σ = some (v, σ')) (hR : RelW ι σ W) (hD : Dom ι σ) (hv : VRL ι args av) :
    Calls Tryd.prog 57 av.toArray W fun e W' => ∃ ι' v', e = .returned v' ∧ VR ι' v v' ∧ Post ι σ W ι' σ' W' := by
  unfold growPrim at h
  split at h
  · rename_i b n
    simp only [VRL, VR, S.val] at hv
    obtain ⟨_, _, rfl, ⟨p, hp, hz, rfl⟩, _, _, rfl, rfl, rfl⟩ := hv
    split at h
    · rename_i t c hb
      split at h
      · rename_i ht
        obtain ⟨rfl, hcb, hn0, hn1⟩ := ht
        obtain rfl : b = c := hcb.symm
        injection h with h
        injection h with h1 h2
        subst h1; subst h2
        obtain ⟨hb0, hn, u0, u1, hc, r0, r1⟩ := bld_blk hR hp hb
        simp only [VR] at r0 r1
        obtain ⟨p', hp', _, rfl⟩ := r0
        rw [hp] at hp'
        injection hp' with hp'
        subst hp'
        subst r1
        rw [hb0, Nat.zero_add]
        rw [hb0, Nat.zero_add] at hc
        obtain ⟨k, rfl⟩ : ∃ k : Nat, n = k := ⟨n.toNat, by omega⟩
        refine (Tryd.growFresh p.c k W hc (by omega)).mono ?_
        rintro e W' ⟨rfl, cs, hk, hmax, rfl⟩
        have hlt : p.c < W.heap.size := hR.lt b p hp
        -- first the slice's cell, then the new row
        let W1 := W.setCell ⟨p.c, 1, none⟩ (.slice (some ⟨W.heap.size, 0, none⟩) 0 cs.size)
        have hw : W1.heap[p.c]? = some (.cells #[.pointer (some ⟨p.c, 0, none⟩), .slice (some ⟨W.heap.size, 0, none⟩) 0 cs.size] 59 (0, 0)) := by
          simp [W1, World.setCell, Array.getElem?_modify, hc]
        have hsz1 : W1.heap.size = W.heap.size := by simp [W1, World.setCell]
        have hnone : ι σ.length = none := by
          cases q : ι σ.length with
          | none => rfl
          | some r => exact absurd (hD _ _ q) (Nat.lt_irrefl _)
        obtain ⟨_, hle, _, _, _, hs, _, hsz⟩ := (hR.blk b p _ hp hb).2.2 rfl
        -- the builder, its slice laid as one that names no row yet
        have q1 : Post ι σ W ι (σ.set b (.vs (.ty 59) [.ptr b 0 2, .undef])) W1 := eff_set hR hp hb rfl ⟨rfl, rfl, rfl, by simp [W1]⟩ (fun c hne => by simp [W1, World.setCell, Array.getElem?_modify, Ne.symm hne]) ⟨hn.symm, fun i y hy => by
          rw [hb0, Nat.zero_add, Lib.cell_of_heap hw]
          match i, hy with
          | 0, hy => simp at hy; subst hy; exact ⟨_, rfl, by simp only [VR]; exact ⟨p, hp, hz, by rw [hb0]; rfl⟩⟩
          | 1, hy => simp at hy; subst hy; exact ⟨_, rfl, trivial⟩
          | i + 2, hy => simp at hy, fun _ => ⟨hb0, hle, _, _, hw, by rw [hsz, hn]; rfl, rfl, hsz⟩⟩
        have hlen : (σ.set b (.vs (.ty 59) [.ptr b 0 2, .undef])).length = σ.length := by simp
        have q2 := alloc_q (q1.rel) (by rw [hlen]; exact hnone) (.cells cs 5) (.sc (.gty 5) 0 (strS .empty)) ⟨W1.heap.size, 0, 0, cs.size, cs.size⟩ rfl ⟨rfl, fun i hi => by omega, fun _ => ⟨rfl, Nat.zero_le _, cs, 5, heap_alloc_at W1 _, rfl, rfl⟩⟩
        rw [hlen] at q2
        have hext := q2.ext
        have hbl := hD b p hp
        -- the slice is told
        have q3 : Post (ι.put σ.length ⟨W1.heap.size, 0, 0, cs.size, cs.size⟩) (σ.set b (.vs (.ty 59) [.ptr b 0 2, .undef]) ++ [Blk.sc (.gty 5) 0 (strS .empty)]) (W1.alloc (.cells cs 5)) (ι.put σ.length ⟨W1.heap.size, 0, 0, cs.size, cs.size⟩) ((σ.set b (.vs (.ty 59) [.ptr b 0 2, .undef]) ++ [Blk.sc (.gty 5) 0 (strS .empty)]).set b (.vs (.ty 59) [.ptr b 0 2, .sl σ.length 0 0 1 .whole])) (W1.alloc (.cells cs 5)) :=
          eff_set q2.rel (p := p) (x := .vs (.ty 59) [.ptr b 0 2, .undef]) (hext _ _ hp) (by rw [List.getElem?_append_left (by simpa using hbl), List.getElem?_set_self hbl]) rfl ⟨rfl, rfl, rfl, Nat.le_refl _⟩ (fun _ _ => rfl) ⟨hn.symm, fun i y hy => by
            have hw2 : (W1.alloc (.cells cs 5)).heap[p.c]? = _ := (heap_alloc W1 _ _ (by rw [hsz1]; exact hlt)).trans hw
            rw [hb0, Nat.zero_add, Lib.cell_of_heap hw2]
            match i, hy with
            | 0, hy => simp at hy; subst hy; exact ⟨_, rfl, by simp only [VR]; exact ⟨p, hext _ _ hp, hz, by rw [hb0]; rfl⟩⟩
            | 1, hy => simp at hy; subst hy; exact ⟨_, rfl, _, cs.size, Inj.put_same _ _ _, Nat.le_refl _, by rw [hsz1]; rfl, rfl, rfl, rfl, Nat.zero_le _, Nat.mul_one _, rfl⟩
            | i + 2, hy => simp at hy, fun _ => ⟨hb0, hle, _, _, (heap_alloc W1 _ _ (by rw [hsz1]; exact hlt)).trans hw, by rw [hsz, hn]; rfl, rfl, hsz⟩⟩
        have hset : (σ.set b (.vs (.ty 59) [.ptr b 0 2, .undef]) ++ [Blk.sc (.gty 5) 0 (strS .empty)]).set b (.vs (.ty 59) [.ptr b 0 2, .sl σ.length 0 0 1 .whole]) = σ.set b (.vs (.ty 59) [.ptr b 0 2, .sl σ.length 0 0 1 .whole]) ++ [Blk.sc (.gty 5) 0 (strS .empty)] := by
          rw [List.set_append_left _ _ (by simpa using hbl), List.set_set]
        rw [hset] at q3
        have hD1 : Dom ι (σ.set b (.vs (.ty 59) [.ptr b 0 2, .undef])) := fun c q h => by rw [hlen]; exact hD c q h
        have hD2 : Dom (ι.put σ.length ⟨W1.heap.size, 0, 0, cs.size, cs.size⟩) (σ.set b (.vs (.ty 59) [.ptr b 0 2, .undef]) ++ [Blk.sc (.gty 5) 0 (strS .empty)]) := q2.post.dom hD1
        have qq := (q1.trans hD (q2.post)).trans hD q3
        refine ⟨ι.put σ.length ⟨W1.heap.size, 0, 0, cs.size, cs.size⟩, _, rfl, ⟨[], rfl, rfl⟩, ?_⟩
        exact ⟨⟨qq.same.os, qq.same.tape, qq.same.output, qq.same.size⟩, qq.ext, qq.rel.toDrew.toDrew.toDrew, qq.len, qq.frame, qq.fresh, qq.mono, qq.lives⟩
      · cases h
    · cases h
  · cases h

theorem okByte_val {x : S} (h : okByte x = true) : x.val = .int .u8 (UInt8.ofNat (Am.byteOf x)).toNat := by
  cases x with
  | int k n =>
    cases k <;> simp [okByte] at h
    have : (UInt8.ofNat n.toNat).toNat = n.toNat := by
      rw [UInt8.toNat_ofNat']
      omega
    simp only [Am.byteOf, S.val, this]
    rw [Int.toNat_of_nonneg h.1]
  | bool b => simp [okByte] at h
  | str s => simp [okByte] at h

theorem str_ok [Bas] (h : strPrim 59 5 args σ = some (v, σ')) (hR : RelW ι σ W) (hv : VRL ι args av) :
    Calls Tryd.prog 29 av.toArray W fun e W' => ∃ ι' v', e = .returned v' ∧ VR ι' v v' ∧ Post ι σ W ι' σ' W' := by
  unfold strPrim at h
  split at h
  · rename_i b
    simp only [VRL, VR] at hv
    obtain ⟨_, _, rfl, ⟨p, hp, hz, rfl⟩, rfl⟩ := hv
    split at h
    · rename_i t x g m hb
      split at h
      · rename_i e q f hg
        split at h
        · rename_i ht
          obtain ⟨rfl, rfl, hm0, hm, hall⟩ := ht
          injection h with h
          injection h with h1 h2
          subst h1; subst h2
          obtain ⟨hb0, hn, u0, u1, hc, r0, r1⟩ := bld_blk hR hp hb
          simp only [VR, capOK] at r1
          obtain ⟨pg, cap, hpg, hle, rfl, _, hgb, hcp, hmc, hcs, hmn⟩ := r1
          obtain ⟨hq, hcell, hown⟩ := hR.blk g pg _ hpg hg
          obtain ⟨_, _, cur, T, hgc, hcz, hT⟩ := hown rfl
          obtain rfl : T = 5 := hT
          rw [hb0, Nat.zero_add]
          rw [hgb, Nat.zero_add] at hc
          have hlen : (bytesOf f m).length = m := by simp [bytesOf]
          refine (Tryd.readAll p.c pg.c cap u0 cur (bytesOf f m) W (by rw [hlen]; exact hc) hgc (fun e => hm0 (by rw [← hlen, e]; rfl)) (by omega) (by unfold maxLen; omega) (by omega) (fun j y hy => ?_)).mono ?_
          · have hj : j < m := by
              rw [← hlen]
              exact (List.getElem?_eq_some_iff.1 hy).1
            have h1 := hcell j (by omega)
            rw [hgb, Nat.zero_add, Lib.cell_of_heap hgc] at h1
            rw [h1, okByte_val (List.all_eq_true.1 hall j (List.mem_range.2 hj))]
            have : (bytesOf f m)[j]? = some (UInt8.ofNat (Am.byteOf (f j))) := by simp [bytesOf, hj]
            rw [this] at hy
            injection hy with hy
            rw [hy]
          · rintro e W' ⟨rfl, rfl⟩
            have hk : ∀ c, c ≠ pg.c → (W.drew.freeze ⟨pg.c, 0, none⟩ (bytesOf f m).length).heap[c]? = W.heap[c]? := fun c hne => by
              unfold World.freeze
              rw [if_neg (by rw [hlen]; exact hm0)]
              simp only [Array.getElem?_modify]
              rw [if_neg (Ne.symm hne)]
              rfl
            have hs : (W.drew.freeze ⟨pg.c, 0, none⟩ (bytesOf f m).length).heap.size = W.heap.size := by
              unfold World.freeze
              split
              · rfl
              · simp
            have ho : (W.drew.freeze ⟨pg.c, 0, none⟩ (bytesOf f m).length).os = W.os ∧ (W.drew.freeze ⟨pg.c, 0, none⟩ (bytesOf f m).length).tape = W.tape ∧ (W.drew.freeze ⟨pg.c, 0, none⟩ (bytesOf f m).length).output = W.output := by
              unfold World.freeze
              split <;> exact ⟨rfl, rfl, rfl⟩
            exact ⟨ι, _, rfl, rfl, eff_set hR hpg hg rfl ⟨ho.1, ho.2.1, ho.2.2, by rw [hs]; exact Nat.le_refl _⟩ hk trivial⟩
        · cases h
      · cases h
    · cases h
  · cases h

end

theorem primsOK [Tabs] : PrimsOK Tryd.prog AM := by
  intro f pf hpf args σ v σ' h
  have hb : primF f = some pf := hpf
  unfold primF at hb
  cases h0 : Nat.beq f 48 with
  | true =>
    rw [h0] at hb; injection hb with hb; subst hb
    obtain rfl := Nat.eq_of_beq_eq_true h0
    exact ⟨⟨_, Tryd.func48, by kernel_rfl, by decide⟩, fun ι W av hR _ hv => idx_ok h hR hv⟩
  | false =>
  rw [h0, cond_false] at hb
  cases h0 : Nat.beq f 15 with
  | true =>
    rw [h0] at hb; injection hb with hb; subst hb
    obtain rfl := Nat.eq_of_beq_eq_true h0
    exact ⟨⟨_, Tryd.func15, by kernel_rfl, by decide⟩, fun ι W av hR _ hv => itoa_ok h hR hv⟩
  | false =>
  rw [h0, cond_false] at hb
  cases h0 : Nat.beq f 75 with
  | true =>
    rw [h0] at hb; injection hb with hb; subst hb
    obtain rfl := Nat.eq_of_beq_eq_true h0
    exact ⟨⟨_, Tryd.func75, by kernel_rfl, by decide⟩, fun ι W av hR _ hv => has_ok h hR hv⟩
  | false =>
  rw [h0, cond_false] at hb
  cases h0 : Nat.beq f 56 with
  | true =>
    rw [h0] at hb; injection hb with hb; subst hb
    obtain rfl := Nat.eq_of_beq_eq_true h0
    exact ⟨⟨_, Tryd.func56, by kernel_rfl, by decide⟩, fun ι W av hR _ hv => low_ok h hR hv⟩
  | false =>
  rw [h0, cond_false] at hb
  cases h0 : Nat.beq f 55 with
  | true =>
    rw [h0] at hb; injection hb with hb; subst hb
    obtain rfl := Nat.eq_of_beq_eq_true h0
    exact ⟨⟨_, Tryd.func55, by kernel_rfl, by decide⟩, fun ι W av hR _ hv => copy_ok h hR hv⟩
  | false =>
  rw [h0, cond_false] at hb
  cases h0 : Nat.beq f 57 with
  | true =>
    rw [h0] at hb; injection hb with hb; subst hb
    obtain rfl := Nat.eq_of_beq_eq_true h0
    exact ⟨⟨_, Tryd.func57, by kernel_rfl, by decide⟩, fun ι W av hR hD hv => grow_ok h hR hD hv⟩
  | false =>
  rw [h0, cond_false] at hb
  cases h0 : Nat.beq f 29 with
  | true =>
    rw [h0] at hb; injection hb with hb; subst hb
    obtain rfl := Nat.eq_of_beq_eq_true h0
    exact ⟨⟨_, Tryd.func29, by kernel_rfl, by decide⟩, fun ι W av hR _ hv => str_ok h hR hv⟩
  | false =>
  rw [h0] at hb
  cases hb

theorem runOK [Tabs] : RunOK Tryd.prog (Run AM) := run_ok fnsOK primsOK (by kernel_rfl)

end Go.Proofs.YtlaogmemhephnaaDoor
/- From a run of the machine to the row: the laid tables, and openings. -/
namespace Go.Proofs.YtlaogmemhephnaaDoor
set_option linter.unusedSimpArgs false
set_option linter.unusedVariables false
open Go Go.Am Go.ChangeShapes Go.WideShapes Go.ChangeAt Go.RowKit

theorem Tryd.own : ownKnob Tryd.prog.godebug = none := by kernel_rfl
theorem Tryd.laidOut : laidOutB Tryd.prog = true := by kernel_rfl

/-- The tables that a row lists. -/
abbrev tabsL : List (String × DataW Unit) := [("math/bits.deBruijn32tab", Rows.laid_math_bits_deBruijn32tab), ("math/bits.deBruijn64tab", Rows.laid_math_bits_deBruijn64tab), ("internal/strconv.uint64pow10", Rows.laid_internal_strconv_uint64pow10), ("unicode/utf8.acceptRanges", Rows.laid_unicode_utf8_acceptRanges), ("unicode.CaseRanges", Rows.laid_unicode_CaseRanges), ("unicode/utf8.first", Rows.laid_unicode_utf8_first)]

theorem pow_name : Tryd.prog.globalNamed "internal/strconv.uint64pow10" = some ((Tryd.prog.globalNamed "internal/strconv.uint64pow10").getD 0) := by kernel_rfl

/-- The table of powers, out of the row's condition. -/
theorem pow_laid {W : World} (h : laidMetH Tryd.prog tabsL W) : Lib.TabIs Tryd.prog W "internal/strconv.uint64pow10" .u64 Lib.pow10Tab := by
  rw [MakeChecks.laidMetH_plain _ _ _ (by kernel_rfl)] at h
  have h := h.filter (fun x => x.1 == "internal/strconv.uint64pow10")
  have e : (tabsL.filter fun x => x.1 == "internal/strconv.uint64pow10") = [("internal/strconv.uint64pow10", Lib.tabData .u64 Lib.pow10Tab)] := by kernel_rfl
  rw [e] at h
  exact Lib.tabIs_of_head pow_name (t := 113) (by kernel_rfl) (e := 100) (n := 20) (by kernel_rfl) (by kernel_rfl) (by kernel_rfl) (by kernel_rfl) h

/-- The world at the begin. -/
@[reducible] def tabsAt {W : World} (h : laidMetH Tryd.prog tabsL W) : Tabs := { w := W, pow := pow_laid h }

/-- What lies there at the witness. -/
theorem tabs_met (os : Os) (args : Array Value) : laidMetH Tryd.prog tabsL ((World.laidAll Tryd.prog os tabsL).forCall (fun _ _ => 0) ⟨#[], args, []⟩).memory := by
  rw [MakeChecks.laidMetH_plain _ _ _ (by kernel_rfl)]
  exact laidMet_laidAll _ (by kernel_rfl) (by kernel_rfl)

def zeros (n : Nat) : Value := .agg (Array.replicate n (.int .i64 0))

end Go.Proofs.YtlaogmemhephnaaDoor
/- Builders: the walks of their methods. -/
set_option linter.unusedVariables false
namespace Go.Proofs.YtlaogmemhephnaaDoor
open Go Go.Am

theorem copy_BC (own : Bool) : BC AM own 55 [] 59 (.tup []) := by
  refine ⟨[.vs (.ty 59) [.ptr 0 0 2, .snil]], ?_, rfl⟩
  rw [Run_prim (pf := copyPrim 59) rfl]
  cases own <;> rfl

theorem copy_BU (m : Nat) (g : Nat → S) : BU AM 55 [] 59 5 m g (.tup []) := by
  refine ⟨[.vs (.ty 59) [.ptr 0 0 2, .sl 1 0 m 1 .whole], .sc (.gty 5) m g], ?_, rfl, rfl⟩
  rw [Run_prim (pf := copyPrim 59) rfl]
  rfl

theorem grow_BN {n : Int} (h0 : 0 ≤ n) (h1 : n ≤ 281474976710656) : BN AM true 57 [.s (.int .i64 n)] 59 5 (.tup []) 0 (strS .empty) := by
  refine ⟨[.vs (.ty 59) [.ptr 0 0 2, .sl 1 0 0 1 .whole], .sc (.gty 5) 0 (strS .empty)], 1, ?_, rfl, Nat.le_refl _, rfl⟩
  rw [Run_prim (pf := growPrim 59 5) rfl]
  simp only [growPrim, self, cond_true, List.getElem?_cons_zero]
  rw [if_pos ⟨trivial, trivial, h0, h1⟩]
  rfl

theorem bytes_strS (s : ByteArray) : bytesOf (strS s) s.size = s.data.toList := by
  refine List.ext_getElem (by simp [bytesOf]) fun i h1 h2 => ?_
  have hi : i < s.data.size := by simpa using h2
  simp only [bytesOf, List.getElem_map, List.getElem_range, strS, Am.byteOf, Array.getElem_toList]
  rw [Array.getD_eq_getD_getElem?, Array.getElem?_eq_getElem hi, Option.getD_some]
  simp

theorem ok_strS (s : ByteArray) (m : Nat) : (List.range m).all (fun i => okByte (strS s i)) = true := by
  rw [List.all_eq_true]
  intro i _
  simp only [strS, okByte, decide_eq_true_eq]
  have := (s.data.getD i 0).toNat_lt
  omega

theorem str_BE (s : ByteArray) (h0 : s.size ≠ 0) (h1 : s.size ≤ 140737488355328) : BE AM 29 [] 59 5 s.size (strS s) (.s (.str s)) := by
  refine ⟨[.vs (.ty 59) [.ptr 0 0 2, .sl 1 0 s.size 1 .whole], .dead], ?_, rfl, rfl⟩
  rw [Run_prim (pf := strPrim 59 5) rfl]
  simp only [strPrim, List.getElem?_cons_zero, List.getElem?_cons_succ]
  rw [if_pos ⟨trivial, trivial, h0, h1, ok_strS s _⟩, bytes_strS]
  rfl

/-- A text written into a builder without a buffer. -/
theorem write_BN (own : Bool) (t : ByteArray) (h0 : t.size ≠ 0) (hr : t.size ≤ 140737488355328) : BN AM own 27 [.s (.str t)] 59 5 (.tup [.s (.int .i64 t.size), .inil]) t.size (strS t) := by
  suffices h : WR AM 27 [.ptr 0 0 2, .s (.str t)] [.vs (.ty 59) [self own 0, .snil]] (fun v _ L => v = .tup [.s (.int .i64 t.size), .inil] ∧ (0, Blk.vs (.ty 59) [.ptr 0 0 2, .sl 1 0 t.size 1 .whole]) ∈ L ∧ (1, Blk.sc (.gty 5) t.size (strS t)) ∈ L) by
    obtain ⟨v, σ', n', L', h1, h2, rfl, h3, h4⟩ := h
    exact ⟨σ', 1, h1, (h2.2.mem h3).2, Nat.le_refl _, (h2.2.mem h4).2⟩
  refine WR_fn (a := a27) rfl rfl (entryF _) (entry_E (Nat.le_of_ble_eq_true rfl)) (m := 1) rfl ?_
  refine WP_seq (WP_ops ?_)
  refine WO_mv rfl (WO_mv rfl (WO_nil ?_))
  refine WP_seq (WP_ops ?_)
  refine WO_mv rfl ?_
  refine WO_bldC (own := own) (copy_BC own) rfl rfl rfl rfl .here (WO_nil ?_)
  refine WP_seq (WP_ops ?_)
  refine WO_mv rfl (WO_mv rfl ?_)
  refine WO_nilckP rfl ?_
  refine WO_fa (o' := 1) rfl rfl rfl ?_
  refine WO_ldV rfl rfl (.head _) rfl ?_
  refine WO_mv rfl ?_
  refine WO_appbN (t := t) rfl rfl h0 (by simpa [roomy] using hr) ?_
  refine WO_nilckP rfl ?_
  refine WO_fa (o' := 1) rfl rfl rfl ?_
  refine WO_stV rfl rfl rfl rfl rfl rfl rfl rfl (.there .here) (WO_nil ?_)
  refine WP_seq (WP_ops ?_)
  refine WO_mv rfl ?_
  refine WO_lenS rfl ?_
  refine WO_mv rfl (WO_mv rfl (WO_nil ?_))
  refine WP_ret ?_
  exact ⟨_, RS_tmp rfl (RS_tmp rfl RS_nil), rfl, .tail _ (.head _), .head _⟩

/-- A text written into a builder with a buffer. -/
theorem write_BW (s t : ByteArray) (hr : s.size + t.size ≤ 140737488355328) : BW AM 27 [.s (.str t)] 59 5 s.size (strS s) (.tup [.s (.int .i64 t.size), .inil]) (s ++ t).size (strS (s ++ t)) := by
  have hsz : (s ++ t).size = s.size + t.size := ByteArray.size_append
  suffices h : WR AM 27 [.ptr 0 0 2, .s (.str t)] [.vs (.ty 59) [.ptr 0 0 2, .sl 1 0 s.size 1 .whole], .sc (.gty 5) s.size (strS s)] (fun v _ L => v = .tup [.s (.int .i64 t.size), .inil] ∧ (0, Blk.vs (.ty 59) [.ptr 0 0 2, .sl 2 0 (s.size + t.size) 1 .whole]) ∈ L ∧ (1, Blk.dead) ∈ L ∧ (2, Blk.sc (.gty 5) (s.size + t.size) (fun i => bif Nat.blt i s.size then strS s i else strS t (i - s.size))) ∈ L) by
    obtain ⟨v, σ', n', L', h1, h2, rfl, h3, h4, h5⟩ := h
    rw [hsz, ← strS_append]
    exact ⟨σ', 2, h1, (h2.2.mem h3).2, Nat.le_refl _, (h2.2.mem h4).2, (h2.2.mem h5).2⟩
  refine WR_fn (a := a27) rfl rfl (entryF _) (entry_E (Nat.le_of_ble_eq_true rfl)) (m := 2) rfl ?_
  refine WP_seq (WP_ops ?_)
  refine WO_mv rfl (WO_mv rfl (WO_nil ?_))
  refine WP_seq (WP_ops ?_)
  refine WO_mv rfl ?_
  refine WO_bldU (copy_BU _ _) rfl rfl rfl rfl (.head _) (.tail _ (.head _)) (WO_nil ?_)
  refine WP_seq (WP_ops ?_)
  refine WO_mv rfl (WO_mv rfl ?_)
  refine WO_nilckP rfl ?_
  refine WO_fa (o' := 1) rfl rfl rfl ?_
  refine WO_ldV rfl rfl (.head _) rfl ?_
  refine WO_mv rfl ?_
  refine WO_appbW (t := t) rfl rfl (by simpa [roomy] using hr) (.there .here) ?_
  refine WO_nilckP rfl ?_
  refine WO_fa (o' := 1) rfl rfl rfl ?_
  refine WO_stV rfl rfl rfl rfl rfl rfl rfl rfl (.there .here) (WO_nil ?_)
  refine WP_seq (WP_ops ?_)
  refine WO_mv rfl ?_
  refine WO_lenS rfl ?_
  refine WO_mv rfl (WO_mv rfl (WO_nil ?_))
  refine WP_ret ?_
  exact ⟨_, RS_tmp rfl (RS_tmp rfl RS_nil), rfl, .tail _ (.head _), .tail _ (.tail _ (.head _)), .head _⟩

end Go.Proofs.YtlaogmemhephnaaDoor
/- strings.Join, walked. -/
set_option linter.unusedVariables false
set_option linter.unusedSimpArgs false
namespace Go.Am
open Go
section
variable {A : AP} {N : Nat} {f : FE} {n : Nat} {L : HA} {K : KN} {Zp : V → KN} {l : List I} {d : Nat}

theorem WO_alloct {t : TypeId} {vs : List V} (k : WO A N l (upd f d (.ptr n 0 vs.length)) (n + 1) ((n, .vs (.ty t) vs) :: L) K Zp) : WO A N (⟨some d, none, .h (.alloct t vs)⟩ :: l) f n L K Zp :=
  WO_h (v := .ptr n 0 vs.length) (fun σ h => ⟨σ ++ [.vs (.ty t) vs], by simp only [heapV, h.1], h.new _⟩) k

/-- What is known of the room of a slice's tail. -/
def tailC : Cp → Cp
  | .ex k => .ex (k - 1)
  | _ => .unk
def roomC (m : Nat) : Cp → Prop
  | .ex k => m ≤ k
  | _ => True

theorem WO_slTail {x y : O} {b m : Nat} {c : Cp} (hx : x.fv N f = .sl b 0 m 1 c) (hy : y.fv N f = .s (.int .i64 1)) (hm : 2 ≤ m) (hc : roomC m c) (k : WO A N l (upd f d (.sl b 1 (m - 1) 1 (tailC c))) n L K Zp) : WO A N (⟨some d, none, .p (.slV 1 x (some y) none)⟩ :: l) f n L K Zp :=
  WO_p (v := .sl b 1 (m - 1) 1 (tailC c)) (by
    have hl : fvb N f (some y) 0 = some 1 := by simp only [fvb, hy, num?]
    have hh : fvb N f (none : Option O) m = some (m : Int) := rfl
    simp only [pureV, ev_E, hx, bound_E, hl, hh, if_true]
    cases c with
    | ex q =>
      have hq : m ≤ q := hc
      simp only [tailC]
      rw [if_pos (by omega), if_neg (by simp; omega)]
      simp
    | unk => simp only [tailC]; rw [if_pos (by omega), if_pos (by omega)]; simp
    | whole => simp only [tailC]; rw [if_pos (by omega), if_pos (by omega)]; simp) k
end
end Go.Am
namespace Go.Proofs.YtlaogmemhephnaaDoor
open Go Go.Am

/-- Texts, one behind the other, parted. -/
def catF (X : Nat → ByteArray) (sep : ByteArray) : Nat → ByteArray
  | 0 => X 0
  | i + 1 => catF X sep i ++ sep ++ X (i + 1)
def sumF (X : Nat → ByteArray) : Nat → Nat
  | 0 => 0
  | i + 1 => sumF X i + (X i).size

theorem cat_size (X : Nat → ByteArray) (sep : ByteArray) : ∀ i, (catF X sep i).size = sumF X (i + 1) + i * sep.size
  | 0 => by simp [catF, sumF]
  | i + 1 => by
    rw [catF, ByteArray.size_append, ByteArray.size_append, cat_size X sep i]
    simp only [sumF, Nat.add_mul, Nat.one_mul]
    omega

theorem sum_le (X : Nat → ByteArray) {i : Nat} : ∀ {j : Nat}, i ≤ j → sumF X i ≤ sumF X j
  | 0, h => by have : i = 0 := by omega
               subst this; exact Nat.le_refl _
  | j + 1, h => by
    by_cases e : i = j + 1
    · subst e; exact Nat.le_refl _
    · have := sum_le X (i := i) (j := j) (by omega)
      simp only [sumF]; omega

theorem cat_le (X : Nat → ByteArray) (sep : ByteArray) {i j : Nat} (h : i ≤ j) : (catF X sep i).size ≤ (catF X sep j).size := by
  rw [cat_size, cat_size]
  have := sum_le X (show i + 1 ≤ j + 1 by omega)
  have := Nat.mul_le_mul_right sep.size h
  omega

theorem Grow_BN {n : Int} (h0 : 0 < n) (h1 : n ≤ 281474976710656) : BN AM false 30 [.s (.int .i64 n)] 59 5 (.tup []) 0 (strS .empty) := by
  suffices h : WR AM 30 [.ptr 0 0 2, .s (.int .i64 n)] [.vs (.ty 59) [self false 0, .snil]] (fun v _ L => v = .tup [] ∧ (0, Blk.vs (.ty 59) [.ptr 0 0 2, .sl 1 0 0 1 .whole]) ∈ L ∧ (1, Blk.sc (.gty 5) 0 (strS .empty)) ∈ L) by
    obtain ⟨v, σ', n', L', h1, h2, rfl, h3, h4⟩ := h
    exact ⟨σ', 1, h1, (h2.2.mem h3).2, Nat.le_refl _, (h2.2.mem h4).2⟩
  refine WR_fn (a := a30) rfl rfl (entryF _) (entry_E (Nat.le_of_ble_eq_true rfl)) (m := 1) rfl ?_
  refine WP_seq (WP_ops ?_)
  refine WO_mv rfl ?_
  refine WO_bldC (own := false) (copy_BC false) rfl rfl rfl rfl .here (WO_nil ?_)
  refine WP_seq (WP_seq (WP_ops ?_))
  refine WO_mv (v := .s (.int _ _)) rfl ?_
  refine WO_bin (r := .bool _) rfl rfl rfl ?_
  refine WO_nil ?_
  refine WP_cond rfl (fun h => ?_) (fun h => ?_)
  · simp only [NM] at h; omega
  refine WP_skip ?_
  refine WP_seq (WP_par ?_)
  refine WO_mv rfl ?_
  refine WO_nilckP rfl ?_
  refine WO_fa (o' := 1) rfl rfl rfl ?_
  refine WO_ldV rfl rfl (.head _) rfl ?_
  refine WO_p (v := .s (.int .i64 0)) rfl ?_
  refine WO_mv rfl ?_
  refine WO_nilckP rfl ?_
  refine WO_fa (o' := 1) rfl rfl rfl ?_
  refine WO_ldV rfl rfl (.head _) rfl ?_
  refine WO_p (v := .s (.int .i64 0)) rfl ?_
  refine WO_sub rfl rfl (by omega) ?_
  refine WO_mv (v := .s (.int _ _)) rfl ?_
  refine WO_bin (r := .bool _) rfl rfl rfl ?_
  refine WO_nil ?_
  refine WP_cond rfl (fun h => ?_) (fun h => ?_)
  · refine WP_ops ?_
    refine WO_mv rfl ?_
    refine WO_mv (v := .s (.int _ _)) rfl ?_
    refine WO_bldN (own := true) (grow_BN (by omega) h1) rfl rfl rfl rfl .here (WO_nil ?_)
    exact ⟨_, RS_nil, rfl, .tail _ (.head _), .head _⟩
  · simp only [NM] at h; omega

/-- One text. -/
theorem Join_one {md : Md} {q : Nat} {g : Nat → S} {c : Cp} (x sep : ByteArray) (hg : g 0 = .str x) : WR AM 12 [.sl 0 0 1 1 c, .s (.str sep)] [.sc md q g] (fun v _ L => v = .s (.str x) ∧ (0, Blk.sc md q g) ∈ L) := by
  refine WR_fn (a := a12) rfl rfl (entryF _) (entry_E (Nat.le_of_ble_eq_true rfl)) (m := 1) rfl ?_
  refine WP_seq (WP_ops (WO_mv rfl (WO_nil ?_)))
  refine WP_seq (WP_seq (WP_ops ?_))
  refine WO_mv rfl (WO_len rfl (WO_nil ?_))
  refine WP_block (WP_seq (WP_ops ?_))
  refine WO_bin (r := .bool false) rfl rfl rfl (WO_mv rfl (WO_nil ?_))
  refine WP_cond rfl (fun h => by cases h) (fun h => ?_)
  refine WP_seq (WP_ops ?_)
  refine WO_bin (r := .bool true) rfl rfl rfl (WO_mv rfl (WO_nil ?_))
  refine WP_cond rfl (fun h => ?_) (fun h => by cases h)
  refine WP_seq (WP_ops ?_)
  refine WO_mv rfl ?_
  refine WO_ixs rfl rfl (by omega) ?_
  refine WO_ldS rfl rfl (.head _) hg ?_
  refine WO_mv rfl (WO_nil ?_)
  refine WP_ret ?_
  exact ⟨_, RS_tmp rfl RS_nil, rfl, .head _⟩

theorem Join_many {md : Md} {q : Nat} {g : Nat → S} {c : Cp} (X : Nat → ByteArray) (sep : ByteArray) (m : Nat) (hm : 1 ≤ m) (hm2 : m ≤ 140737488355328) (hc : roomC (m + 1) c) (hg : ∀ i, i ≤ m → g i = .str (X i)) (h0 : 0 < (catF X sep m).size) (hT : (catF X sep m).size ≤ 140737488355328) :
    WR AM 12 [.sl 0 0 (m + 1) 1 c, .s (.str sep)] [.sc md q g] (fun v _ L => v = .s (.str (catF X sep m)) ∧ (0, Blk.sc md q g) ∈ L) := by
  have hsz := cat_size X sep m
  have hsm : ∀ i, i ≤ m + 1 → sumF X i + m * sep.size ≤ 140737488355328 := fun i hi => by
    have := sum_le X (show i ≤ m + 1 from hi); omega
  have hms : ((sep.size : Int) * (m : Int)) = ((m * sep.size : Nat) : Int) := by rw [Int.natCast_mul, Int.mul_comm]
  refine WR_fn (a := a12) rfl rfl (entryF _) (entry_E (Nat.le_of_ble_eq_true rfl)) (m := 1) rfl ?_
  refine WP_seq (WP_ops (WO_mv rfl (WO_nil ?_)))
  refine WP_seq (WP_seq (WP_ops ?_))
  refine WO_mv rfl (WO_len rfl (WO_nil ?_))
  refine WP_block (WP_seq (WP_ops ?_))
  refine WO_bin (r := .bool _) rfl rfl rfl (WO_mv rfl (WO_nil ?_))
  refine WP_cond rfl (fun h => ?_) (fun h => ?_)
  · simp only [NM] at h; omega
  refine WP_seq (WP_ops ?_)
  refine WO_bin (r := .bool _) rfl rfl rfl (WO_mv rfl (WO_nil ?_))
  refine WP_cond rfl (fun h => ?_) (fun h => ?_)
  · simp only [NM] at h; omega
  refine WP_skip ?_
  refine WP_seq (WP_ops (WO_mv rfl (WO_nil ?_)))
  refine WP_cut (fun f n L => f 0 = .sl 0 0 (m + 1) 1 c ∧ f 1 = .s (.str sep) ∧ f 5 = .s (.int .i64 ((m * sep.size : Nat) : Int)) ∧ L = [(0, .sc md q g)]) ?_ ?_
  · refine WP_seq (WP_ops ?_)
    refine WO_mv rfl (WO_lenS rfl ?_)
    refine WO_bin (r := .bool _) rfl rfl rfl (WO_nil ?_)
    refine WP_cond rfl (fun h => ?_) (fun h => ?_)
    · refine WP_seq (WP_seq (WP_ops ?_))
      refine WO_mv rfl (WO_lenS rfl (WO_mv rfl (WO_len rfl ?_)))
      refine WO_sub rfl rfl (by omega) ?_
      refine WO_quo rfl rfl (by omega) ?_
      refine WO_bin (r := .bool _) rfl rfl rfl (WO_nil ?_)
      refine WP_cond rfl (fun h2 => ?_) (fun h2 => ?_)
      · exfalso
        simp only [NM] at h2
        have h3 : (sep.size : Int) + 1 ≤ 9223372036854775807 / (((m + 1 : Nat) : Int) - 1) := by
          refine Int.le_ediv_of_mul_le (by omega) ?_
          have e : (((m + 1 : Nat) : Int) - 1) = (m : Int) := by omega
          rw [e, Int.add_mul, hms]
          omega
        omega
      refine WP_skip (WP_ops ?_)
      refine WO_mv (v := .s (.int _ _)) rfl (WO_mv rfl (WO_lenS rfl (WO_mv rfl (WO_len rfl ?_))))
      refine WO_sub rfl rfl (by omega) ?_
      have e : (((m + 1 : Nat) : Int) - 1) = (m : Int) := by omega
      rw [e]
      refine WO_mul rfl rfl (by rw [hms]; omega) ?_
      rw [hms]
      refine WO_add rfl rfl (by omega) ?_
      refine WO_mv (v := .s (.int _ _)) rfl (WO_nil ?_)
      exact ⟨_, .refl _, rfl, rfl, by rw [Int.zero_add]; rfl, rfl⟩
    · refine WP_skip ?_
      simp only [NM] at h
      have : sep.size = 0 := by omega
      exact ⟨_, .refl _, rfl, rfl, by rw [this]; rfl, rfl⟩
  rintro f n L ⟨k0, k1, k5, rfl⟩
  refine WP_know (d := 0) k0 (WP_know (d := 1) k1 (WP_know (d := 5) k5 ?_))
  refine WP_cut (fun f n L => f 0 = .sl 0 0 (m + 1) 1 c ∧ f 1 = .s (.str sep) ∧ f 5 = .s (.int .i64 ((catF X sep m).size : Int)) ∧ L = [(0, .sc md q g)]) ?_ ?_
  · refine WP_seq (WP_ops ?_)
    refine WO_mv rfl (WO_len rfl (WO_mv rfl (WO_nil ?_)))
    refine WP_block ?_
    refine WP_loop (fun k f _ L => ∃ i : Nat, i ≤ m + 1 ∧ k = m + 1 - i ∧ f 0 = .sl 0 0 (m + 1) 1 c ∧ f 1 = .s (.str sep) ∧ f 5 = .s (.int .i64 ((m * sep.size + sumF X i : Nat) : Int)) ∧ f 39 = .sl 0 0 (m + 1) 1 c ∧ f 40 = .s (.int .i64 ((m + 1 : Nat) : Int)) ∧ f 41 = .s (.int .i64 (i : Int)) ∧ L = [(0, .sc md q g)]) (fun k f nb L hI => ?_) (m + 1) ⟨0, by omega, rfl, rfl, rfl, rfl, rfl, rfl, rfl, rfl⟩
    obtain ⟨i, hi, hk, k0, k1, k5, k39, k40, k41, rfl⟩ := hI
    refine WP_know (d := 0) k0 (WP_know (d := 1) k1 (WP_know (d := 5) k5 (WP_know (d := 39) k39 (WP_know (d := 40) k40 (WP_know (d := 41) k41 ?_)))))
    refine WP_seq (WP_ops ?_)
    refine WO_bin (r := .bool _) rfl rfl rfl (WO_nil ?_)
    refine WP_seq ?_
    refine WP_cond rfl (fun h => ?_) (fun h => ?_)
    · simp only [NM] at h
      have hi2 : i ≤ m := by omega
      have hb := hsm (i + 1) (by omega)
      simp only [sumF] at hb
      refine WP_skip (WP_seq (WP_block (WP_seq (WP_ops ?_))))
      refine WO_ixs rfl rfl (by omega) ?_
      refine WO_ldS (x := .str (X i)) rfl rfl (.head _) (by rw [show 0 + ((i : Int)).toNat * 1 = i by omega]; exact hg i hi2) ?_
      refine WO_mv rfl (WO_nil ?_)
      refine WP_seq (WP_seq (WP_ops ?_))
      refine WO_mv rfl (WO_lenS rfl (WO_mv (v := .s (.int _ _)) rfl ?_))
      refine WO_sub rfl rfl (by omega) ?_
      refine WO_bin (r := .bool _) rfl rfl rfl (WO_nil ?_)
      refine WP_cond rfl (fun h2 => ?_) (fun h2 => ?_)
      · simp only [NM] at h2; omega
      refine WP_skip (WP_ops ?_)
      refine WO_mv (v := .s (.int _ _)) rfl (WO_mv rfl (WO_lenS rfl ?_))
      refine WO_add rfl rfl (by omega) ?_
      refine WO_mv (v := .s (.int _ _)) rfl (WO_nil ?_)
      refine WP_ops ?_
      refine WO_add rfl rfl (by omega) ?_
      refine WO_mv (v := .s (.int _ _)) rfl (WO_nil ?_)
      exact ⟨m + 1 - (i + 1), _, by omega, .refl _, i + 1, by omega, rfl, rfl, rfl, by simp only [sumF]; rw [← Nat.add_assoc, Int.natCast_add]; rfl, rfl, rfl, by rw [Int.natCast_add]; rfl, rfl⟩
    · simp only [NM] at h
      obtain rfl : i = m + 1 := by omega
      refine WP_exit (xhere ?_)
      exact ⟨_, .refl _, rfl, rfl, by rw [hsz, show sumF X (m + 1) + m * sep.size = m * sep.size + sumF X (m + 1) from Nat.add_comm _ _]; rfl, rfl⟩
  rintro f n L ⟨k0, k1, k5, rfl⟩
  refine WP_know (d := 0) k0 (WP_know (d := 1) k1 (WP_know (d := 5) k5 ?_))
  refine WP_seq (WP_ops (WO_alloct (WO_nil ?_)))
  refine WP_seq (WP_ops ?_)
  refine WO_mv (v := .s (.int _ _)) rfl ?_
  refine WO_bldN (own := false) (Grow_BN (n := ((catF X sep m).size : Int)) (by omega) (by omega)) rfl rfl rfl rfl .here (WO_nil ?_)
  refine WP_seq (WP_ops ?_)
  refine WO_mv rfl (WO_ixs rfl rfl (by omega) ?_)
  refine WO_ldS (x := .str (X 0)) rfl rfl (.tail _ (.tail _ (.head _))) (hg 0 (by omega)) ?_
  have hX0 : (X 0).size ≤ 140737488355328 := by
    have := cat_le X sep (show 0 ≤ m by omega)
    simp only [catF] at this
    omega
  refine WO_bldW (write_BW .empty (X 0) (by show 0 + _ ≤ _; omega)) rfl rfl rfl rfl (.there .here) (.head _) .here (WO_nil ?_)
  have e0 : (ByteArray.empty ++ X 0) = X 0 := by simp
  rw [e0]
  refine WP_cut (fun f n L => ∃ b k, f 1 = .s (.str sep) ∧ f 8 = .ptr b 0 2 ∧ L = [(k, .sc (.gty 5) (catF X sep m).size (strS (catF X sep m))), (b, .vs (.ty 59) [.ptr b 0 2, .sl k 0 (catF X sep m).size 1 .whole]), (0, .sc md q g)]) ?_ ?_
  · refine WP_seq (WP_ops ?_)
    refine WO_mv rfl ?_
    refine WO_slTail rfl rfl (by omega) hc ?_
    refine WO_len rfl (WO_mv rfl (WO_nil ?_))
    refine WP_block ?_
    refine WP_sub (L' := [_, _, _]) (.cons_cons _ (.cons _ (.cons_cons _ (.cons_cons _ .slnil)))) ?_
    refine WP_loop (fun j f _ L => ∃ (i b k : Nat), i ≤ m ∧ j = m - i ∧ f 1 = .s (.str sep) ∧ f 8 = .ptr b 0 2 ∧ f 63 = .sl 0 1 m 1 (tailC c) ∧ f 64 = .s (.int .i64 (m : Int)) ∧ f 65 = .s (.int .i64 (i : Int)) ∧ L = [(k, .sc (.gty 5) (catF X sep i).size (strS (catF X sep i))), (b, .vs (.ty 59) [.ptr b 0 2, .sl k 0 (catF X sep i).size 1 .whole]), (0, .sc md q g)]) (fun j f nb L hI => ?_) m ⟨0, _, _, by omega, rfl, rfl, rfl, rfl, rfl, rfl, rfl⟩
    obtain ⟨i, b, k, hi, hj, k1, k8, k63, k64, k65, rfl⟩ := hI
    refine WP_know (d := 1) k1 ?_
    refine WP_know (d := 8) k8 ?_
    refine WP_know (d := 63) k63 ?_
    refine WP_know (d := 64) k64 ?_
    refine WP_know (d := 65) k65 ?_
    refine WP_seq (WP_ops ?_)
    refine WO_bin (r := .bool _) rfl rfl rfl (WO_nil ?_)
    refine WP_seq ?_
    refine WP_cond rfl (fun h => ?_) (fun h => ?_)
    · simp only [NM] at h
      have hb := cat_le X sep (show i + 1 ≤ m by omega)
      have hb2 : (catF X sep (i + 1)).size = (catF X sep i).size + sep.size + (X (i + 1)).size := by rw [catF, ByteArray.size_append, ByteArray.size_append]
      refine WP_skip (WP_seq (WP_block (WP_seq (WP_ops ?_))))
      refine WO_ixs rfl rfl (by omega) ?_
      refine WO_ldS (x := .str (X (i + 1))) rfl rfl (.tail _ (.tail _ (.head _))) (by rw [show 1 + ((i : Int)).toNat * 1 = i + 1 by omega]; exact hg (i + 1) (by omega)) ?_
      refine WO_mv rfl (WO_nil ?_)
      refine WP_seq (WP_ops ?_)
      refine WO_mv rfl ?_
      refine WO_bldW (write_BW (catF X sep i) sep (by omega)) rfl rfl rfl rfl (.there .here) (.head _) .here (WO_nil ?_)
      refine WP_ops ?_
      refine WO_mv rfl ?_
      refine WO_bldW (write_BW (catF X sep i ++ sep) (X (i + 1)) (by rw [ByteArray.size_append]; omega)) rfl rfl rfl rfl (.there (.there .here)) (.head _) .here (WO_nil ?_)
      refine WP_ops ?_
      refine WO_add rfl rfl (by omega) ?_
      refine WO_mv (v := .s (.int _ _)) rfl (WO_nil ?_)
      exact ⟨m - (i + 1), _, by omega, .cons_cons _ (.cons _ (.cons _ (.cons_cons _ (.cons_cons _ .slnil)))), i + 1, _, _, by omega, rfl, rfl, rfl, rfl, rfl, by rw [Int.natCast_add]; rfl, rfl⟩
    · simp only [NM] at h
      obtain rfl : i = m := by omega
      refine WP_exit (xhere ?_)
      exact ⟨_, .refl _, b, k, rfl, rfl, rfl⟩
  rintro f n L ⟨b, k, k1, k8, rfl⟩
  refine WP_know (d := 1) k1 ?_
  refine WP_know (d := 8) k8 ?_
  refine WP_seq (WP_ops ?_)
  refine WO_bldE (str_BE (catF X sep m) (by omega) hT) rfl rfl rfl rfl (.tail _ (.head _)) .here ?_
  refine WO_mv rfl (WO_nil ?_)
  refine WP_ret ?_
  exact ⟨_, RS_tmp rfl RS_nil, rfl, .tail _ (.tail _ (.head _))⟩

end Go.Proofs.YtlaogmemhephnaaDoor
/- The walks of places and colours. -/
namespace Go.Proofs.YtlaogmemhephnaaDoor
open Go Go.Am
set_option linter.unusedSimpArgs false
set_option linter.unusedVariables false
/-- A square's file, rank, and that it is one. -/
def ofL (x : Int) : List S := if 0 ≤ x ∧ x < 64 then [.int .i64 (x % 8), .int .i64 (x / 8), .bool true] else [.int .i64 (-1), .int .i64 (-1), .bool false]

theorem of_run (x : Int) : WR AM 31 [.s (.int .i64 x)] [] (fun v _ _ => v = .agg 3 (lc (ofL x))) := by
 refine WR_fn (a := a31) rfl rfl (entryF _) (entry_E (Nat.le_of_ble_eq_true rfl)) (m := 0) rfl ?_
 refine WP_seq ?_
 refine WP_ops ?_
 refine WO_allocL rfl ?_
 refine WO_nil ?_
 refine WP_seq ?_
 refine WP_seq ?_
 refine WP_ops ?_
 refine WO_mv (v := .s (.int _ _)) rfl ?_
 refine WO_bin (r := .bool _) rfl rfl rfl ?_
 refine WO_mv (v := .s (.bool _)) rfl ?_
 refine WO_case (t := 5) rfl (fun h1 => ?_) (fun h1 => ?_)
 ·try simp only [NM] at h1
  refine WO_gf rfl rfl ?_
  refine WO_gf rfl rfl ?_
  refine WO_pick (v := .s (.bool _)) rfl rfl ?_
  refine WO_nil ?_
  refine WP_cond rfl (fun _ => ?_) (fun h => nomatch h)
  refine WP_seq ?_
  refine WP_ops ?_
  refine WO_buildI rfl (.one rfl (.one rfl .nil)) ?_
  refine WO_buildL rfl rfl (.part (v := .agg _ _) (ys := [_, _, _]) rfl rfl rfl rfl .nil) ?_
  refine WO_st (v := .agg _ _) rfl rfl rfl rfl rfl (over_spl (ys := [_, _, _]) rfl rfl) .here ?_
  refine WO_nil ?_
  refine WP_ret ?_
  refine ⟨_, RS_cell rfl rfl (.head _) (RS_nil), ?_⟩
  first | (rw [show ofL x = [.int .i64 (-1), .int .i64 (-1), .bool false] from if_neg (by omega)]; rfl) | (rw [show ofL x = [.int .i64 (x % 8), .int .i64 (x / 8), .bool true] from if_pos (by omega)]; rfl)
 ·try simp only [NM] at h1
  refine WO_gt rfl ?_
  refine WO_mv (v := .s (.int _ _)) rfl ?_
  refine WO_gt rfl ?_
  refine WO_bin (r := .bool _) rfl rfl rfl ?_
  refine WO_pick (v := .s (.bool _)) rfl rfl ?_
  refine WO_nil ?_
  refine WP_cond rfl (fun h2 => ?_) (fun h2 => ?_)
  ·try simp only [NM] at h2
   refine WP_seq ?_
   refine WP_ops ?_
   refine WO_buildI rfl (.one rfl (.one rfl .nil)) ?_
   refine WO_buildL rfl rfl (.part (v := .agg _ _) (ys := [_, _, _]) rfl rfl rfl rfl .nil) ?_
   refine WO_st (v := .agg _ _) rfl rfl rfl rfl rfl (over_spl (ys := [_, _, _]) rfl rfl) .here ?_
   refine WO_nil ?_
   refine WP_ret ?_
   refine ⟨_, RS_cell rfl rfl (.head _) (RS_nil), ?_⟩
   first | (rw [show ofL x = [.int .i64 (-1), .int .i64 (-1), .bool false] from if_neg (by omega)]; rfl) | (rw [show ofL x = [.int .i64 (x % 8), .int .i64 (x / 8), .bool true] from if_pos (by omega)]; rfl)
  ·try simp only [NM] at h2
   refine WP_skip ?_
   refine WP_seq ?_
   refine WP_ops ?_
   refine WO_mv (v := .s (.int _ _)) rfl ?_
   refine WO_rem rfl rfl (by omega) ?_
   refine WO_mv (v := .s (.int _ _)) rfl ?_
   refine WO_quo rfl rfl (by omega) ?_
   refine WO_buildI rfl (.one rfl (.one rfl .nil)) ?_
   refine WO_buildL rfl rfl (.part (v := .agg _ _) (ys := [_, _, _]) rfl rfl rfl rfl (.part (v := .s (.bool _)) (ys := [_, _, _]) rfl rfl rfl rfl .nil)) ?_
   refine WO_st (v := .agg _ _) rfl rfl rfl rfl rfl (over_spl (ys := [_, _, _]) rfl rfl) .here ?_
   refine WO_nil ?_
   refine WP_ret ?_
   refine ⟨_, RS_cell rfl rfl (.head _) (RS_nil), ?_⟩
   first | (rw [show ofL x = [.int .i64 (-1), .int .i64 (-1), .bool false] from if_neg (by omega)]; rfl) | (rw [show ofL x = [.int .i64 (x % 8), .int .i64 (x / 8), .bool true] from if_pos (by omega)]; rfl)
theorem of_in (x : Int) (h : 0 ≤ x ∧ x < 64) : RF AM 31 [.s (.int .i64 x)] (.agg 3 (lc [.int .i64 (x % 8), .int .i64 (x / 8), .bool true])) := by
  have := RF_of (of_run x)
  rw [ofL, if_pos h] at this
  exact this

end Go.Proofs.YtlaogmemhephnaaDoor
/- The walks of squares, and of a position turned. -/
namespace Go.Proofs.YtlaogmemhephnaaDoor
open Go Go.Am
set_option linter.unusedSimpArgs false
set_option linter.unusedVariables false
theorem of_out (x : Int) (h : ¬ (0 ≤ x ∧ x < 64)) : RF AM 31 [.s (.int .i64 x)] (.agg 3 (lc [.int .i64 (-1), .int .i64 (-1), .bool false])) := by
  have := RF_of (of_run x)
  rw [ofL, if_neg h] at this
  exact this

/-- A square's file, its rank, and whether it is one. -/
def fileM (x : Int) : Int := if 0 ≤ x ∧ x < 64 then x % 8 else -1
def rankM (x : Int) : Int := if 0 ≤ x ∧ x < 64 then x / 8 else -1
def isM (x : Int) : Bool := decide (0 ≤ x ∧ x < 64)
/-- The square of a file and a rank. -/
def atM (a b : Int) : Int := if 0 ≤ a ∧ a < 8 ∧ 0 ≤ b ∧ b < 8 then b * 8 + a else -1

theorem Rank_in (x : Int) (h : 0 ≤ x ∧ x < 64) : WR AM 38 [.s (.int .i64 x)] [] (fun v _ _ => v = .s (.int .i64 (rankM x))) := by
 refine WR_fn (a := a38) rfl rfl (entryF _) (entry_E (Nat.le_of_ble_eq_true rfl)) (m := 0) rfl ?_
 refine WP_seq ?_
 refine WP_ops ?_
 refine WO_mv rfl ?_
 refine WO_nil ?_
 refine WP_seq ?_
 refine WP_ops ?_
 refine WO_mv (v := .s (.int _ _)) rfl ?_
 refine WO_call0 rfl (of_in _ h) rfl rfl rfl ?_
 refine WO_fldA rfl rfl ?_
 refine WO_fldS (a := .int _ _) rfl rfl rfl ?_
 first | refine WO_mv (v := .s (.int _ _)) rfl ?_ | refine WO_mv (v := .s _) rfl ?_
 refine WO_nil ?_
 refine WP_ret ?_
 refine ⟨_, RS_tmp (v := _) rfl (RS_nil), ?_⟩
 rw [rankM, if_pos h]; rfl
theorem Rank_out (x : Int) (h : ¬ (0 ≤ x ∧ x < 64)) : WR AM 38 [.s (.int .i64 x)] [] (fun v _ _ => v = .s (.int .i64 (rankM x))) := by
 refine WR_fn (a := a38) rfl rfl (entryF _) (entry_E (Nat.le_of_ble_eq_true rfl)) (m := 0) rfl ?_
 refine WP_seq ?_
 refine WP_ops ?_
 refine WO_mv rfl ?_
 refine WO_nil ?_
 refine WP_seq ?_
 refine WP_ops ?_
 refine WO_mv (v := .s (.int _ _)) rfl ?_
 refine WO_call0 rfl (of_out _ h) rfl rfl rfl ?_
 refine WO_fldA rfl rfl ?_
 refine WO_fldS (a := .int _ _) rfl rfl rfl ?_
 first | refine WO_mv (v := .s (.int _ _)) rfl ?_ | refine WO_mv (v := .s _) rfl ?_
 refine WO_nil ?_
 refine WP_ret ?_
 refine ⟨_, RS_tmp (v := _) rfl (RS_nil), ?_⟩
 rw [rankM, if_neg h]; rfl
theorem Rank_run (x : Int) : RF AM 38 [.s (.int .i64 x)] (.s (.int .i64 (rankM x))) := by
  by_cases h : 0 ≤ x ∧ x < 64
  · exact RF_of (Rank_in x h)
  · exact RF_of (Rank_out x h)

theorem WO_convW {A : AP} {N : Nat} {f : FE} {n : Nat} {L : HA} {K : KN} {Zp : V → KN} {l : List I} {d : Nat} {kd kd' : IntKind} {x : O} {a : Int} (hx : x.fv N f = .s (.int kd' a)) (k : WO A N l (upd f d (.s (.int kd (kd.wrap a)))) n L K Zp) : WO A N (⟨some d, none, .p (.conv kd x)⟩ :: l) f n L K Zp :=
  WO_p (v := .s (.int kd (kd.wrap a))) (by simp only [pureV, ev_E, hx]) k

theorem u64_lt8 {a : Int} (h : -9223372036854775808 ≤ a ∧ a ≤ 9223372036854775807) : IntKind.u64.wrap a < 8 ↔ 0 ≤ a ∧ a < 8 := by
  rw [IntKind.wrap_u64]
  omega

theorem within_run (P : Nat → Int) (ha : -9223372036854775808 ≤ P 0 ∧ P 0 ≤ 9223372036854775807) (hb : -9223372036854775808 ≤ P 1 ∧ P 1 ≤ 9223372036854775807) : WR AM 65 [.agg 2 (ia P)] [] (fun v _ _ => v = .s (.bool (decide (0 ≤ P 0 ∧ P 0 < 8 ∧ 0 ≤ P 1 ∧ P 1 < 8)))) := by
 refine WR_fn (a := a65) rfl rfl (entryF _) (entry_E (Nat.le_of_ble_eq_true rfl)) (m := 0) rfl ?_
 refine WP_seq ?_
 refine WP_ops ?_
 refine WO_boxA rfl ?_
 refine WO_mv rfl ?_
 refine WO_nil ?_
 refine WP_seq ?_
 refine WP_ops ?_
 refine WO_fa (o' := 0) rfl rfl rfl ?_
 refine WO_ldI rfl rfl (.head _) rfl ?_
 refine WO_convW rfl ?_
 refine WO_bin (r := .bool _) rfl rfl rfl ?_
 refine WO_mv (v := .s (.bool _)) rfl ?_
 refine WO_case (t := 7) rfl (fun h1 => ?_) (fun h1 => ?_)
 ·try simp only [NM] at h1
  refine WO_gt rfl ?_
  refine WO_fa (o' := 1) rfl rfl rfl ?_
  refine WO_gt rfl ?_
  refine WO_ldI rfl rfl (.head _) rfl ?_
  refine WO_gt rfl ?_
  refine WO_convW rfl ?_
  refine WO_gt rfl ?_
  refine WO_bin (r := .bool _) rfl rfl rfl ?_
  refine WO_pick (v := .s (.bool _)) rfl rfl ?_
  refine WO_mv (v := .s (.bool _)) rfl ?_
  refine WO_nil ?_
  refine WP_ret ?_
  refine ⟨_, RS_tmp (v := .s (.bool _)) rfl (RS_nil), ?_⟩
  refine congrArg (fun b => V.s (S.bool b)) ?_
  have e0 := u64_lt8 ha
  have e1 := u64_lt8 hb
  rw [Bool.eq_iff_iff]
  simp only [decide_eq_true_eq, Bool.false_eq_true, false_iff]
  omega
 ·try simp only [NM] at h1
  refine WO_gf rfl rfl ?_
  refine WO_gf rfl rfl ?_
  refine WO_gf rfl rfl ?_
  refine WO_gf rfl rfl ?_
  refine WO_pick (v := .s (.bool _)) rfl rfl ?_
  refine WO_mv (v := .s (.bool _)) rfl ?_
  refine WO_nil ?_
  refine WP_ret ?_
  refine ⟨_, RS_tmp (v := .s (.bool _)) rfl (RS_nil), ?_⟩
  refine congrArg (fun b => V.s (S.bool b)) ?_
  have e0 := u64_lt8 ha
  have e1 := u64_lt8 hb
  rw [Bool.eq_iff_iff]
  simp only [decide_eq_true_eq, Bool.false_eq_true, false_iff]
  omega
theorem number_run (P : Nat → Int) (ha : -9223372036854775808 ≤ P 0 ∧ P 0 ≤ 9223372036854775807) (hb : -9223372036854775808 ≤ P 1 ∧ P 1 ≤ 9223372036854775807) : WR AM 54 [.agg 2 (ia P)] [] (fun v _ _ => v = .s (.int .i64 (atM (P 0) (P 1)))) := by
 refine WR_fn (a := a54) rfl rfl (entryF _) (entry_E (Nat.le_of_ble_eq_true rfl)) (m := 0) rfl ?_
 refine WP_seq ?_
 refine WP_ops ?_
 refine WO_boxA rfl ?_
 refine WO_mv rfl ?_
 refine WO_nil ?_
 refine WP_seq ?_
 refine WP_seq ?_
 refine WP_ops ?_
 first | refine WO_ldA0 rfl rfl (.head _) ?_ | refine WO_ldAI rfl rfl (.head _) ?_
 refine WO_call0 rfl (RF_of (within_run _ ha hb)) rfl rfl rfl ?_
 refine WO_un (r := .bool _) rfl rfl ?_
 refine WO_nil ?_
 refine WP_cond rfl (fun h2 => ?_) (fun h2 => ?_)
 ·try simp only [NM] at h2
  refine WP_seq ?_
  refine WP_ops ?_
  refine WO_mv rfl ?_
  refine WO_nil ?_
  refine WP_ret ?_
  refine ⟨_, RS_tmp (v := .s (.int _ _)) rfl (RS_nil), ?_⟩
  refine congrArg (fun b => V.s (S.int .i64 b)) ?_
  unfold atM
  split <;> omega
 ·try simp only [NM] at h2
  refine WP_skip ?_
  refine WP_seq ?_
  refine WP_ops ?_
  refine WO_fa (o' := 1) rfl rfl rfl ?_
  refine WO_ldI rfl rfl (.head _) rfl ?_
  refine WO_mul rfl rfl (by omega) ?_
  refine WO_fa (o' := 0) rfl rfl rfl ?_
  refine WO_ldI rfl rfl (.head _) rfl ?_
  refine WO_add rfl rfl (by omega) ?_
  refine WO_mv (v := .s (.int _ _)) rfl ?_
  refine WO_nil ?_
  refine WP_ret ?_
  refine ⟨_, RS_tmp (v := .s (.int _ _)) rfl (RS_nil), ?_⟩
  refine congrArg (fun b => V.s (S.int .i64 b)) ?_
  unfold atM
  split <;> omega
theorem At_run (a b : Int) (ha : -9223372036854775808 ≤ a ∧ a ≤ 9223372036854775807) (hb : -9223372036854775808 ≤ b ∧ b ≤ 9223372036854775807) : WR AM 26 [.s (.int .i64 a), .s (.int .i64 b)] [] (fun v _ _ => v = .s (.int .i64 (atM a b))) := by
 refine WR_fn (a := a26) rfl rfl (entryF _) (entry_E (Nat.le_of_ble_eq_true rfl)) (m := 0) rfl ?_
 refine WP_seq ?_
 refine WP_ops ?_
 refine WO_mv rfl ?_
 refine WO_nil ?_
 refine WP_seq ?_
 refine WP_ops ?_
 refine WO_mv (v := .s (.int _ _)) rfl ?_
 refine WO_mv (v := .s (.int _ _)) rfl ?_
 refine WO_buildI rfl (.one rfl (.one rfl .nil)) ?_
 refine WO_call0 rfl (RF_of (number_run _ ha hb)) rfl rfl rfl ?_
 refine WO_mv (v := .s (.int _ _)) rfl ?_
 refine WO_nil ?_
 refine WP_ret ?_
 refine ⟨_, RS_tmp (v := .s (.int _ _)) rfl (RS_nil), ?_⟩
 rfl
/-- The other side; may a piece be; a square across. -/
def otherM (s : Int) : Int := if s = 0 then 1 else 0
def mayM (k s : Int) : Bool := decide (1 ≤ k ∧ k ≤ 6 ∧ (s = 0 ∨ s = 1))
def acrossM (x : Int) : Int := (7 - x / 8) * 8 + x % 8
def sideT (k s : Int) : Int := if mayM k s = true then otherM s else s

theorem ovA_out {P : Nat → Int} {o m : Nat} {Q : Nat → Int} {i : Nat} (h : i < o ∨ o + m ≤ i) : ovA P o m Q i = P i := by
  have e : (Nat.ble o i && Nat.blt i (o + m)) = false := by
    cases h1 : Nat.ble o i with
    | false => rfl
    | true =>
      cases h2 : Nat.blt i (o + m) with
      | false => rfl
      | true =>
        have := Nat.le_of_ble_eq_true h1
        have := Nat.le_of_ble_eq_true h2
        omega
  show (bif Nat.ble o i && Nat.blt i (o + m) then Q (i - o) else P i) = P i
  rw [e]; rfl

theorem ovA_at {P : Nat → Int} {o m : Nat} {Q : Nat → Int} {i : Nat} (h : o ≤ i ∧ i < o + m) : ovA P o m Q i = Q (i - o) := by
  have e : (Nat.ble o i && Nat.blt i (o + m)) = true := by
    rw [Nat.ble_eq_true_of_le h.1, show Nat.blt i (o + m) = true from Nat.ble_eq_true_of_le h.2]; rfl
  show (bif Nat.ble o i && Nat.blt i (o + m) then Q (i - o) else P i) = Q (i - o)
  rw [e]; rfl

theorem Other_run (s : Int) : WR AM 43 [.s (.int .i64 s)] [] (fun v _ _ => v = .s (.int .i64 (otherM s))) := by
 refine WR_fn (a := a43) rfl rfl (entryF _) (entry_E (Nat.le_of_ble_eq_true rfl)) (m := 0) rfl ?_
 refine WP_seq ?_
 refine WP_ops ?_
 refine WO_mv rfl ?_
 refine WO_nil ?_
 refine WP_seq ?_
 refine WP_seq ?_
 refine WP_ops ?_
 refine WO_mv (v := .s (.int _ _)) rfl ?_
 refine WO_bin (r := .bool _) rfl rfl rfl ?_
 refine WO_nil ?_
 refine WP_cond rfl (fun h3 => ?_) (fun h3 => ?_)
 ·try simp only [NM] at h3
  refine WP_seq ?_
  refine WP_ops ?_
  refine WO_mv rfl ?_
  refine WO_nil ?_
  refine WP_ret ?_
  refine ⟨_, RS_tmp (v := .s (.int _ _)) rfl (RS_nil), ?_⟩
  first | (rw [show otherM s = 1 from if_pos (by omega)]; rfl) | (rw [show otherM s = 0 from if_neg (by omega)]; rfl)
 ·try simp only [NM] at h3
  refine WP_skip ?_
  refine WP_seq ?_
  refine WP_ops ?_
  refine WO_mv rfl ?_
  refine WO_nil ?_
  refine WP_ret ?_
  refine ⟨_, RS_tmp (v := .s (.int _ _)) rfl (RS_nil), ?_⟩
  first | (rw [show otherM s = 1 from if_pos (by omega)]; rfl) | (rw [show otherM s = 0 from if_neg (by omega)]; rfl)
theorem may_run (P : Nat → Int) : WR AM 39 [.agg 2 (ia P)] [] (fun v _ _ => v = .s (.bool (mayM (P 0) (P 1)))) := by
 refine WR_fn (a := a39) rfl rfl (entryF _) (entry_E (Nat.le_of_ble_eq_true rfl)) (m := 0) rfl ?_
 refine WP_seq ?_
 refine WP_ops ?_
 refine WO_boxA rfl ?_
 refine WO_mv rfl ?_
 refine WO_nil ?_
 refine WP_seq ?_
 refine WP_ops ?_
 refine WO_fa (o' := 0) rfl rfl rfl ?_
 refine WO_ldI rfl rfl (.head _) rfl ?_
 refine WO_bin (r := .bool _) rfl rfl rfl ?_
 refine WO_mv (v := .s (.bool _)) rfl ?_
 refine WO_case (t := 6) rfl (fun h4 => ?_) (fun h4 => ?_)
 ·try simp only [NM] at h4
  refine WO_gt rfl ?_
  refine WO_fa (o' := 0) rfl rfl rfl ?_
  refine WO_gt rfl ?_
  refine WO_ldI rfl rfl (.head _) rfl ?_
  refine WO_gt rfl ?_
  refine WO_bin (r := .bool _) rfl rfl rfl ?_
  refine WO_pick (v := .s (.bool _)) rfl rfl ?_
  refine WO_mv (v := .s (.bool _)) rfl ?_
  refine WO_case (t := 11) rfl (fun h5 => ?_) (fun h5 => ?_)
  ·try simp only [NM] at h5
   refine WO_gt rfl ?_
   refine WO_fa (o' := 1) rfl rfl rfl ?_
   refine WO_gt rfl ?_
   refine WO_ldI rfl rfl (.head _) rfl ?_
   refine WO_gt rfl ?_
   refine WO_bin (r := .bool _) rfl rfl rfl ?_
   refine WO_gt rfl ?_
   refine WO_mv (v := .s (.bool _)) rfl ?_
   refine WO_case (t := 15) rfl (fun h6 => ?_) (fun h6 => ?_)
   ·try simp only [NM] at h6
    refine WO_gf rfl rfl ?_
    refine WO_gf rfl rfl ?_
    refine WO_gf rfl rfl ?_
    refine WO_gt rfl ?_
    refine WO_pick (v := .s (.bool _)) rfl rfl ?_
    refine WO_pick (v := .s (.bool _)) rfl rfl ?_
    refine WO_mv (v := .s (.bool _)) rfl ?_
    refine WO_nil ?_
    refine WP_ret ?_
    refine ⟨_, RS_tmp (v := .s (.bool _)) rfl (RS_nil), ?_⟩
    refine congrArg (fun b => V.s (S.bool b)) ?_
    unfold mayM
    rw [Bool.eq_iff_iff]
    simp only [beq_iff_eq, decide_eq_true_eq, Bool.false_eq_true, true_iff, false_iff]
    omega
   ·try simp only [NM] at h6
    refine WO_gt rfl ?_
    refine WO_fa (o' := 1) rfl rfl rfl ?_
    refine WO_gt rfl ?_
    refine WO_ldI rfl rfl (.head _) rfl ?_
    refine WO_gt rfl ?_
    refine WO_bin (r := .bool _) rfl rfl rfl ?_
    refine WO_gt rfl ?_
    refine WO_pick (v := .s (.bool _)) rfl rfl ?_
    refine WO_pick (v := .s (.bool _)) rfl rfl ?_
    refine WO_mv (v := .s (.bool _)) rfl ?_
    refine WO_nil ?_
    refine WP_ret ?_
    refine ⟨_, RS_tmp (v := .s (.bool _)) rfl (RS_nil), ?_⟩
    refine congrArg (fun b => V.s (S.bool b)) ?_
    unfold mayM
    rw [Bool.eq_iff_iff]
    simp only [beq_iff_eq, decide_eq_true_eq, Bool.false_eq_true, true_iff, false_iff]
    omega
  ·try simp only [NM] at h5
   refine WO_gf rfl rfl ?_
   refine WO_gf rfl rfl ?_
   refine WO_gf rfl rfl ?_
   refine WO_gf rfl rfl ?_
   refine WO_gu rfl ?_
   refine WO_gu rfl ?_
   refine WO_gu rfl ?_
   refine WO_gf rfl rfl ?_
   refine WO_pick (v := .s (.bool _)) rfl rfl ?_
   refine WO_mv (v := .s (.bool _)) rfl ?_
   refine WO_nil ?_
   refine WP_ret ?_
   refine ⟨_, RS_tmp (v := .s (.bool _)) rfl (RS_nil), ?_⟩
   refine congrArg (fun b => V.s (S.bool b)) ?_
   unfold mayM
   rw [Bool.eq_iff_iff]
   simp only [beq_iff_eq, decide_eq_true_eq, Bool.false_eq_true, true_iff, false_iff]
   omega
 ·try simp only [NM] at h4
  refine WO_gf rfl rfl ?_
  refine WO_gf rfl rfl ?_
  refine WO_gf rfl rfl ?_
  refine WO_pick (v := .s (.bool _)) rfl rfl ?_
  refine WO_mv (v := .s (.bool _)) rfl ?_
  refine WO_gf rfl rfl ?_
  refine WO_gf rfl rfl ?_
  refine WO_gf rfl rfl ?_
  refine WO_gf rfl rfl ?_
  refine WO_gu rfl ?_
  refine WO_gu rfl ?_
  refine WO_gu rfl ?_
  refine WO_gf rfl rfl ?_
  refine WO_pick (v := .s (.bool _)) rfl rfl ?_
  refine WO_mv (v := .s (.bool _)) rfl ?_
  refine WO_nil ?_
  refine WP_ret ?_
  refine ⟨_, RS_tmp (v := .s (.bool _)) rfl (RS_nil), ?_⟩
  refine congrArg (fun b => V.s (S.bool b)) ?_
  unfold mayM
  rw [Bool.eq_iff_iff]
  simp only [beq_iff_eq, decide_eq_true_eq, Bool.false_eq_true, true_iff, false_iff]
  omega
/-- A position turned: its castlings; the square gone over. -/
def castT (c : Int) : Int := if 0 ≤ c ∧ c ≤ 15 then c / 4 + c % 4 * 4 else c
def overT (x : Int) : Int := if isM x = true then acrossM x else x
def acr (s : Nat) : Nat := (7 - s / 8) * 8 + s % 8

/-- The squares turned, so far. -/
def Turned (P Q : Nat → Int) (i : Nat) : Prop := ∀ s : Nat, s < i → Q (acr s * 2) = P (s * 2) ∧ Q (acr s * 2 + 1) = sideT (P (s * 2)) (P (s * 2 + 1))

theorem ov_out {P : Nat → Int} {o i : Nat} {x : Int} (h : i ≠ o) : ov P o x i = P i := by
  have e : Nat.beq i o = false := by
    cases hb : Nat.beq i o with
    | false => rfl
    | true => exact absurd (Nat.eq_of_beq_eq_true hb) h
  show (bif Nat.beq i o then x else P i) = P i
  rw [e]; rfl

/-- A position and the same turned. -/
structure TurnOf (P Q : Nat → Int) : Prop where
  sq : Turned P Q 64
  side : Q 128 = otherM (P 128)
  castle : Q 129 = castT (P 129)
  over : Q 130 = overT (P 130)
  half : Q 131 = P 131
  full : Q 132 = P 132
  out : ∀ i, 133 ≤ i → Q i = 0

end Go.Proofs.YtlaogmemhephnaaDoor
/- The walks of steps. -/
namespace Go.Proofs.YtlaogmemhephnaaDoor
open Go Go.Am
set_option linter.unusedSimpArgs false
set_option linter.unusedVariables false
/-- The cell of a square. -/
abbrev sqI (x : Int) : Nat := 0 + x.toNat * 2
/-- The square so many files and ranks on. -/
def stepM (s f r : Int) : Int := if (0 ≤ s ∧ s < 64) ∧ (-8 < f ∧ f < 8) ∧ (-8 < r ∧ r < 8) then atM (s % 8 + f) (s / 8 + r) else -1
/-- The file and rank so many on. -/
def onM (s f r : Int) : Nat → Int := if (0 ≤ s ∧ s < 64) ∧ (-8 < f ∧ f < 8) ∧ (-8 < r ∧ r < 8) then (fun i => if i = 0 then s % 8 + f else if i = 1 then s / 8 + r else 0) else (fun i => if i = 0 then -1 else if i = 1 then -1 else 0)
theorem two_fn {x y : Int} : ovA (fun _ => 0) 0 2 (ov (ov (fun _ => 0) 0 x) 1 y) = fun i => if i = 0 then x else if i = 1 then y else 0 := by
  funext i
  by_cases h0 : i = 0
  · subst h0; rfl
  · by_cases h1 : i = 1
    · subst h1; rfl
    · rw [ovA_out (by omega), if_neg h0, if_neg h1]

theorem on_in (s f r : Int) (h : 0 ≤ s ∧ s < 64) : WR AM 62 [.agg 3 (lc [.int .i64 (s % 8), .int .i64 (s / 8), .bool true]), .s (.int .i64 f), .s (.int .i64 r)] [] (fun v _ _ => v = .agg 2 (ia (onM s f r))) := by
 refine WR_fn (a := a62) rfl rfl (entryF _) (entry_E (Nat.le_of_ble_eq_true rfl)) (m := 0) rfl ?_
 refine WP_seq ?_
 refine WP_ops ?_
 refine WO_boxA rfl ?_
 refine WO_allocI ?_
 refine WO_nil ?_
 refine WP_seq ?_
 refine WP_seq ?_
 refine WP_ops ?_
 refine WO_fa (o' := 2) rfl rfl rfl ?_
 refine WO_ldS (x := .bool _) rfl rfl (.tail _ (.head _)) rfl ?_
 refine WO_un (r := .bool _) rfl rfl ?_
 refine WO_mv (v := .s (.bool _)) rfl ?_
 refine WO_gt rfl ?_
 refine WO_mv (v := .s (.int _ _)) rfl ?_
 refine WO_gt rfl ?_
 refine WO_mv (v := .s (.int _ _)) rfl ?_
 refine WO_gt rfl ?_
 refine WO_mx2 rfl rfl ?_
 refine WO_gt rfl ?_
 refine WO_bin (r := .bool _) rfl rfl rfl ?_
 refine WO_pick (v := .s (.bool _)) rfl rfl ?_
 refine WO_mv (v := .s (.bool _)) rfl ?_
 refine WO_case (t := 16) rfl (fun h4 => ?_) (fun h4 => ?_)
 ·try simp only [NM] at h4
  refine WO_gf rfl rfl ?_
  refine WO_gf rfl rfl ?_
  refine WO_gf rfl rfl ?_
  refine WO_gf rfl rfl ?_
  refine WO_pick (v := .s (.bool _)) rfl rfl ?_
  refine WO_nil ?_
  refine WP_cond rfl (fun _ => ?_) (fun h => nomatch h)
  refine WP_seq ?_
  refine WP_ops ?_
  refine WO_buildI rfl (.one rfl (.one rfl .nil)) ?_
  refine WO_stA rfl rfl rfl rfl .here ?_
  refine WO_nil ?_
  refine WP_ret ?_
  refine ⟨_, RS_cell rfl rfl (.head _) (RS_nil), ?_⟩
  refine congrArg (fun g => V.agg 2 (ia g)) ?_
  rw [two_fn]
  first | exact (if_pos ⟨h, by omega, by omega⟩).symm | exact (if_neg (fun q => by omega)).symm
 ·try simp only [NM] at h4
  refine WO_gt rfl ?_
  refine WO_mv (v := .s (.int _ _)) rfl ?_
  refine WO_gt rfl ?_
  refine WO_mv (v := .s (.int _ _)) rfl ?_
  refine WO_gt rfl ?_
  refine WO_mn2 rfl rfl ?_
  refine WO_gt rfl ?_
  refine WO_bin (r := .bool _) rfl rfl rfl ?_
  refine WO_pick (v := .s (.bool _)) rfl rfl ?_
  refine WO_nil ?_
  refine WP_cond rfl (fun h5 => ?_) (fun h5 => ?_)
  ·try simp only [NM] at h5
   refine WP_seq ?_
   refine WP_ops ?_
   refine WO_buildI rfl (.one rfl (.one rfl .nil)) ?_
   refine WO_stA rfl rfl rfl rfl .here ?_
   refine WO_nil ?_
   refine WP_ret ?_
   refine ⟨_, RS_cell rfl rfl (.head _) (RS_nil), ?_⟩
   refine congrArg (fun g => V.agg 2 (ia g)) ?_
   rw [two_fn]
   first | exact (if_pos ⟨h, by omega, by omega⟩).symm | exact (if_neg (fun q => by omega)).symm
  ·try simp only [NM] at h5
   refine WP_skip ?_
   refine WP_seq ?_
   refine WP_ops ?_
   refine WO_fa (o' := 0) rfl rfl rfl ?_
   refine WO_fa (o' := 0) rfl rfl rfl ?_
   refine WO_ldS (x := .int _ _) rfl rfl (.tail _ (.head _)) rfl ?_
   refine WO_mv (v := .s (.int _ _)) rfl ?_
   refine WO_add rfl rfl (by omega) ?_
   refine WO_fa (o' := 0) rfl rfl rfl ?_
   refine WO_fa (o' := 1) rfl rfl rfl ?_
   refine WO_ldS (x := .int _ _) rfl rfl (.tail _ (.head _)) rfl ?_
   refine WO_mv (v := .s (.int _ _)) rfl ?_
   refine WO_add rfl rfl (by omega) ?_
   refine WO_buildI rfl (.one rfl (.one rfl .nil)) ?_
   refine WO_stA rfl rfl rfl rfl .here ?_
   refine WO_nil ?_
   refine WP_ret ?_
   refine ⟨_, RS_cell rfl rfl (.head _) (RS_nil), ?_⟩
   refine congrArg (fun g => V.agg 2 (ia g)) ?_
   rw [two_fn]
   first | exact (if_pos ⟨h, by omega, by omega⟩).symm | exact (if_neg (fun q => by omega)).symm
theorem on_out (s f r : Int) (h : ¬ (0 ≤ s ∧ s < 64)) : WR AM 62 [.agg 3 (lc [.int .i64 (-1), .int .i64 (-1), .bool false]), .s (.int .i64 f), .s (.int .i64 r)] [] (fun v _ _ => v = .agg 2 (ia (onM s f r))) := by
 refine WR_fn (a := a62) rfl rfl (entryF _) (entry_E (Nat.le_of_ble_eq_true rfl)) (m := 0) rfl ?_
 refine WP_seq ?_
 refine WP_ops ?_
 refine WO_boxA rfl ?_
 refine WO_allocI ?_
 refine WO_nil ?_
 refine WP_seq ?_
 refine WP_seq ?_
 refine WP_ops ?_
 refine WO_fa (o' := 2) rfl rfl rfl ?_
 refine WO_ldS (x := .bool _) rfl rfl (.tail _ (.head _)) rfl ?_
 refine WO_un (r := .bool _) rfl rfl ?_
 refine WO_mv (v := .s (.bool _)) rfl ?_
 refine WO_gf rfl rfl ?_
 refine WO_gf rfl rfl ?_
 refine WO_gf rfl rfl ?_
 refine WO_gf rfl rfl ?_
 refine WO_pick (v := .s (.bool _)) rfl rfl ?_
 refine WO_mv (v := .s (.bool _)) rfl ?_
 refine WO_gf rfl rfl ?_
 refine WO_gf rfl rfl ?_
 refine WO_gf rfl rfl ?_
 refine WO_gf rfl rfl ?_
 refine WO_pick (v := .s (.bool _)) rfl rfl ?_
 refine WO_nil ?_
 refine WP_cond rfl (fun _ => ?_) (fun h => nomatch h)
 refine WP_seq ?_
 refine WP_ops ?_
 refine WO_buildI rfl (.one rfl (.one rfl .nil)) ?_
 refine WO_stA rfl rfl rfl rfl .here ?_
 refine WO_nil ?_
 refine WP_ret ?_
 refine ⟨_, RS_cell rfl rfl (.head _) (RS_nil), ?_⟩
 refine congrArg (fun g => V.agg 2 (ia g)) ?_
 rw [two_fn]
 first | exact (if_pos ⟨h, by omega, by omega⟩).symm | exact (if_neg (fun q => by omega)).symm
theorem onM_bd (s : Int) {f r : Int} (i : Nat) : -9223372036854775808 ≤ onM s f r i ∧ onM s f r i ≤ 9223372036854775807 := by
  unfold onM
  split
  · dsimp only; split
    · omega
    · split <;> omega
  · dsimp only; split
    · omega
    · split <;> omega
theorem onM_at (s f r : Int) : atM (onM s f r 0) (onM s f r 1) = stepM s f r := by
  unfold onM stepM
  by_cases h : (0 ≤ s ∧ s < 64) ∧ (-8 < f ∧ f < 8) ∧ (-8 < r ∧ r < 8)
  · rw [if_pos h, if_pos h]; rfl
  · rw [if_neg h, if_neg h]; rfl

theorem Step_in (s f r : Int) (h : 0 ≤ s ∧ s < 64) : WR AM 42 [.s (.int .i64 s), .s (.int .i64 f), .s (.int .i64 r)] [] (fun v _ _ => v = .s (.int .i64 (stepM s f r))) := by
 refine WR_fn (a := a42) rfl rfl (entryF _) (entry_E (Nat.le_of_ble_eq_true rfl)) (m := 0) rfl ?_
 refine WP_seq ?_
 refine WP_ops ?_
 refine WO_mv rfl ?_
 refine WO_nil ?_
 refine WP_seq ?_
 refine WP_ops ?_
 refine WO_mv (v := .s (.int _ _)) rfl ?_
 refine WO_call0 rfl (of_in _ h) rfl rfl rfl ?_
 refine WO_mv (v := .s (.int _ _)) rfl ?_
 refine WO_mv (v := .s (.int _ _)) rfl ?_
 refine WO_call0 rfl (RF_of (on_in _ _ _ h)) rfl rfl rfl ?_
 refine WO_call0 rfl (RF_of (number_run _ (onM_bd s 0) (onM_bd s 1))) rfl rfl rfl ?_
 refine WO_mv (v := .s (.int _ _)) rfl ?_
 refine WO_nil ?_
 refine WP_ret ?_
 refine ⟨_, RS_tmp (v := .s (.int _ _)) rfl (RS_nil), ?_⟩
 exact congrArg (fun b => V.s (S.int .i64 b)) (onM_at s f r)
theorem Step_out (s f r : Int) (h : ¬ (0 ≤ s ∧ s < 64)) : WR AM 42 [.s (.int .i64 s), .s (.int .i64 f), .s (.int .i64 r)] [] (fun v _ _ => v = .s (.int .i64 (stepM s f r))) := by
 refine WR_fn (a := a42) rfl rfl (entryF _) (entry_E (Nat.le_of_ble_eq_true rfl)) (m := 0) rfl ?_
 refine WP_seq ?_
 refine WP_ops ?_
 refine WO_mv rfl ?_
 refine WO_nil ?_
 refine WP_seq ?_
 refine WP_ops ?_
 refine WO_mv (v := .s (.int _ _)) rfl ?_
 refine WO_call0 rfl (of_out _ h) rfl rfl rfl ?_
 refine WO_mv (v := .s (.int _ _)) rfl ?_
 refine WO_mv (v := .s (.int _ _)) rfl ?_
 refine WO_call0 rfl (RF_of (on_out _ _ _ h)) rfl rfl rfl ?_
 refine WO_call0 rfl (RF_of (number_run _ (onM_bd s 0) (onM_bd s 1))) rfl rfl rfl ?_
 refine WO_mv (v := .s (.int _ _)) rfl ?_
 refine WO_nil ?_
 refine WP_ret ?_
 refine ⟨_, RS_tmp (v := .s (.int _ _)) rfl (RS_nil), ?_⟩
 exact congrArg (fun b => V.s (S.int .i64 b)) (onM_at s f r)
theorem Step_run (s f r : Int) : RF AM 42 [.s (.int .i64 s), .s (.int .i64 f), .s (.int .i64 r)] (.s (.int .i64 (stepM s f r))) := by
  by_cases h : 0 ≤ s ∧ s < 64
  · exact RF_of (Step_in s f r h)
  · exact RF_of (Step_out s f r h)

/-- Some number below n. -/
def pickM (x n : Int) : Int := if x.tmod n < 0 then x.tmod n + n else x.tmod n

end Go.Proofs.YtlaogmemhephnaaDoor
/- The walks of squares: names, steps, ways, rings. -/
namespace Go.Am
open Go
section
variable {A : AP} {N : Nat} {f : FE} {n : Nat} {L : HA} {K : KN} {Zp : V → KN} {l : List I} {d : Nat}
def bytes2 (a b : Int) : Nat → S := over (over (fun _ => .int .u8 0) (0 * 1) 1 (fun _ => .int .u8 a)) (1 * 1) 1 (fun _ => .int .u8 b)
end
theorem toList_loop (s : ByteArray) : ∀ (k i : Nat) (r : List UInt8), s.size - i = k → ByteArray.toList.loop s i r = r.reverse ++ (s.data.toList.drop i) := by
  intro k
  induction k with
  | zero =>
    intro i r h
    unfold ByteArray.toList.loop
    have : ¬ i < s.size := by omega
    simp only [this, if_false]
    rw [List.drop_of_length_le (by simp; show s.data.size ≤ i; have : s.size = s.data.size := rfl; omega)]
    simp
  | succ k ih =>
    intro i r h
    unfold ByteArray.toList.loop
    have hi : i < s.size := by omega
    simp only [hi, if_true]
    rw [ih (i+1) _ (by omega)]
    have hi2 : i < s.data.toList.length := by simpa using hi
    rw [List.drop_eq_getElem_cons hi2]
    simp [ByteArray.get!, getElem!_pos, hi]
theorem toList_is (s : ByteArray) : s.toList = s.data.toList := by
  unfold ByteArray.toList
  rw [toList_loop s (s.size) 0 [] (by omega)]
  simp
theorem str_inj {a b : ByteArray} (h : a.toList = b.toList) : a = b := by
  rw [toList_is, toList_is] at h
  exact ByteArray.ext (Array.toList_inj.1 h)
theorem seql_is {a b : ByteArray} {t : Bool} (h : (a.toList == b.toList) = t) : t = true ↔ a = b := by
  subst h
  rw [beq_iff_eq]
  exact ⟨str_inj, fun h => by rw [h]⟩
end Go.Am

namespace Go.Proofs.YtlaogmemhephnaaDoor
open Go Go.Am
set_option linter.unusedSimpArgs false
set_option linter.unusedVariables false
def darkM (x : Int) : Bool := decide ((0 ≤ x ∧ x < 64) ∧ (x % 8 + x / 8) % 2 = 0)
/-- A square's name. -/
def nameS (x : Int) : ByteArray := if 0 ≤ x ∧ x < 64 then ⟨#[UInt8.ofNat (97 + (x % 8).toNat), UInt8.ofNat (49 + (x / 8).toNat)]⟩ else ⟨#[]⟩
theorem name_in {x : Int} (h : 0 ≤ x ∧ x < 64) : nameS x = ⟨#[UInt8.ofNat (97 + (x % 8).toNat), UInt8.ofNat (49 + (x / 8).toNat)]⟩ := if_pos h
theorem letter_of : ∀ f : Fin 8, (⟨#[97, 98, 99, 100, 101, 102, 103, 104]⟩ : ByteArray).extract f.val (f.val + 1) = ⟨#[UInt8.ofNat (97 + f.val)]⟩ := by decide +kernel
theorem digit_of : ∀ f : Fin 8, (⟨#[49, 50, 51, 52, 53, 54, 55, 56]⟩ : ByteArray).extract f.val (f.val + 1) = ⟨#[UInt8.ofNat (49 + f.val)]⟩ := by decide +kernel
theorem name_add {x : Int} (h : 0 ≤ x ∧ x < 64) : binS .add (.str ((⟨#[97, 98, 99, 100, 101, 102, 103, 104]⟩ : ByteArray).extract (x % 8).toNat (x % 8 + 1).toNat)) (.str ((⟨#[49, 50, 51, 52, 53, 54, 55, 56]⟩ : ByteArray).extract (x / 8).toNat (x / 8 + 1).toNat)) = some (.str (nameS x)) := by
  have e1 := letter_of ⟨(x % 8).toNat, by omega⟩
  have e2 := digit_of ⟨(x / 8).toNat, by omega⟩
  simp only at e1 e2
  rw [show (x % 8 + 1).toNat = (x % 8).toNat + 1 by omega, show (x / 8 + 1).toNat = (x / 8).toNat + 1 by omega, e1, e2, name_in h]
  rfl

theorem Name_in (x : Int) (h : 0 ≤ x ∧ x < 64) : WR AM 14 [.s (.int .i64 x)] [] (fun v _ _ => v = .s (.str (nameS x))) := by
 refine WR_fn (a := a14) rfl rfl (entryF _) (entry_E (Nat.le_of_ble_eq_true rfl)) (m := 0) rfl ?_
 refine WP_seq ?_
 refine WP_ops ?_
 refine WO_mv rfl ?_
 refine WO_nil ?_
 refine WP_seq ?_
 refine WP_ops ?_
 refine WO_mv (v := .s (.int _ _)) rfl ?_
 refine WO_call0 rfl (of_in _ h) rfl rfl rfl ?_
 refine WO_allocL rfl ?_
 refine WO_st (v := .agg _ _) rfl rfl rfl rfl rfl (over_spl (ys := [_, _, _]) rfl rfl) .here ?_
 refine WO_nil ?_
 refine WP_seq ?_
 refine WP_seq ?_
 refine WP_ops ?_
 refine WO_fa (o' := 2) rfl rfl rfl ?_
 refine WO_ldS (x := .bool _) rfl rfl (.head _) rfl ?_
 refine WO_un (r := .bool _) rfl rfl ?_
 refine WO_nil ?_
 refine WP_cond rfl (fun h => nomatch h) (fun _ => ?_)
 refine WP_skip ?_
 refine WP_seq ?_
 refine WP_par ?_
 refine WO_fa (o' := 0) rfl rfl rfl ?_
 refine WO_fa (o' := 0) rfl rfl rfl ?_
 refine WO_ldS (x := .int _ _) rfl rfl (.head _) rfl ?_
 refine WO_fa (o' := 0) rfl rfl rfl ?_
 refine WO_fa (o' := 0) rfl rfl rfl ?_
 refine WO_ldS (x := .int _ _) rfl rfl (.head _) rfl ?_
 refine WO_add rfl rfl (by omega) ?_
 refine WO_slS rfl rfl rfl (by show 0 ≤ _ ∧ _ ≤ _ ∧ _ ≤ ((8 : Nat) : Int); omega) ?_
 refine WO_fa (o' := 0) rfl rfl rfl ?_
 refine WO_fa (o' := 1) rfl rfl rfl ?_
 refine WO_ldS (x := .int _ _) rfl rfl (.head _) rfl ?_
 refine WO_fa (o' := 0) rfl rfl rfl ?_
 refine WO_fa (o' := 1) rfl rfl rfl ?_
 refine WO_ldS (x := .int _ _) rfl rfl (.head _) rfl ?_
 refine WO_add rfl rfl (by omega) ?_
 refine WO_slS rfl rfl rfl (by show 0 ≤ _ ∧ _ ≤ _ ∧ _ ≤ ((8 : Nat) : Int); omega) ?_
 refine WO_bin rfl rfl (name_add h) ?_
 refine WO_mv (v := .s _) rfl ?_
 refine WO_nil ?_
 refine WP_ret ?_
 refine ⟨_, RS_tmp (v := .s _) rfl (RS_nil), ?_⟩
 rfl
theorem Name_out (x : Int) (h : ¬ (0 ≤ x ∧ x < 64)) : WR AM 14 [.s (.int .i64 x)] [] (fun v _ _ => v = .s (.str (nameS x))) := by
 refine WR_fn (a := a14) rfl rfl (entryF _) (entry_E (Nat.le_of_ble_eq_true rfl)) (m := 0) rfl ?_
 refine WP_seq ?_
 refine WP_ops ?_
 refine WO_mv rfl ?_
 refine WO_nil ?_
 refine WP_seq ?_
 refine WP_ops ?_
 refine WO_mv (v := .s (.int _ _)) rfl ?_
 refine WO_call0 rfl (of_out _ h) rfl rfl rfl ?_
 refine WO_allocL rfl ?_
 refine WO_st (v := .agg _ _) rfl rfl rfl rfl rfl (over_spl (ys := [_, _, _]) rfl rfl) .here ?_
 refine WO_nil ?_
 refine WP_seq ?_
 refine WP_seq ?_
 refine WP_ops ?_
 refine WO_fa (o' := 2) rfl rfl rfl ?_
 refine WO_ldS (x := .bool _) rfl rfl (.head _) rfl ?_
 refine WO_un (r := .bool _) rfl rfl ?_
 refine WO_nil ?_
 refine WP_cond rfl (fun _ => ?_) (fun h => nomatch h)
 refine WP_seq ?_
 refine WP_ops ?_
 refine WO_mv rfl ?_
 refine WO_nil ?_
 refine WP_ret ?_
 refine ⟨_, RS_tmp (v := .s _) rfl (RS_nil), ?_⟩
 rw [nameS, if_neg h]; rfl
theorem Name_run (x : Int) : RF AM 14 [.s (.int .i64 x)] (.s (.str (nameS x))) := by
  by_cases h : 0 ≤ x ∧ x < 64
  · exact RF_of (Name_in x h)
  · exact RF_of (Name_out x h)

end Go.Proofs.YtlaogmemhephnaaDoor
/- The walks of the chapter board: what is right. -/
namespace Go.Proofs.YtlaogmemhephnaaDoor
open Go Go.Am
set_option linter.unusedSimpArgs false
set_option linter.unusedVariables false
theorem cast_shr0 {c : Int} (h : 0 ≤ c ∧ c ≤ 15) : binS .shr (.int .i64 c) (.int .i64 0) = some (.int .i64 (c / 1)) := by
  have : c = 0 ∨ c = 1 ∨ c = 2 ∨ c = 3 ∨ c = 4 ∨ c = 5 ∨ c = 6 ∨ c = 7 ∨ c = 8 ∨ c = 9 ∨ c = 10 ∨ c = 11 ∨ c = 12 ∨ c = 13 ∨ c = 14 ∨ c = 15 := by omega
  rcases this with rfl | rfl | rfl | rfl | rfl | rfl | rfl | rfl | rfl | rfl | rfl | rfl | rfl | rfl | rfl | rfl <;> rfl
theorem cast_shr1 {c : Int} (h : 0 ≤ c ∧ c ≤ 15) : binS .shr (.int .i64 c) (.int .i64 1) = some (.int .i64 (c / 2)) := by
  have : c = 0 ∨ c = 1 ∨ c = 2 ∨ c = 3 ∨ c = 4 ∨ c = 5 ∨ c = 6 ∨ c = 7 ∨ c = 8 ∨ c = 9 ∨ c = 10 ∨ c = 11 ∨ c = 12 ∨ c = 13 ∨ c = 14 ∨ c = 15 := by omega
  rcases this with rfl | rfl | rfl | rfl | rfl | rfl | rfl | rfl | rfl | rfl | rfl | rfl | rfl | rfl | rfl | rfl <;> rfl
theorem cast_shr2 {c : Int} (h : 0 ≤ c ∧ c ≤ 15) : binS .shr (.int .i64 c) (.int .i64 2) = some (.int .i64 (c / 4)) := by
  have : c = 0 ∨ c = 1 ∨ c = 2 ∨ c = 3 ∨ c = 4 ∨ c = 5 ∨ c = 6 ∨ c = 7 ∨ c = 8 ∨ c = 9 ∨ c = 10 ∨ c = 11 ∨ c = 12 ∨ c = 13 ∨ c = 14 ∨ c = 15 := by omega
  rcases this with rfl | rfl | rfl | rfl | rfl | rfl | rfl | rfl | rfl | rfl | rfl | rfl | rfl | rfl | rfl | rfl <;> rfl
theorem cast_shr3 {c : Int} (h : 0 ≤ c ∧ c ≤ 15) : binS .shr (.int .i64 c) (.int .i64 3) = some (.int .i64 (c / 8)) := by
  have : c = 0 ∨ c = 1 ∨ c = 2 ∨ c = 3 ∨ c = 4 ∨ c = 5 ∨ c = 6 ∨ c = 7 ∨ c = 8 ∨ c = 9 ∨ c = 10 ∨ c = 11 ∨ c = 12 ∨ c = 13 ∨ c = 14 ∨ c = 15 := by omega
  rcases this with rfl | rfl | rfl | rfl | rfl | rfl | rfl | rfl | rfl | rfl | rfl | rfl | rfl | rfl | rfl | rfl <;> rfl
theorem cast_and1 {c : Int} (h : 0 ≤ c ∧ c ≤ 15) : binS .and (.int .i64 c) (.int .i64 1) = some (.int .i64 (c % 2)) := by
  have : c = 0 ∨ c = 1 ∨ c = 2 ∨ c = 3 ∨ c = 4 ∨ c = 5 ∨ c = 6 ∨ c = 7 ∨ c = 8 ∨ c = 9 ∨ c = 10 ∨ c = 11 ∨ c = 12 ∨ c = 13 ∨ c = 14 ∨ c = 15 := by omega
  rcases this with rfl | rfl | rfl | rfl | rfl | rfl | rfl | rfl | rfl | rfl | rfl | rfl | rfl | rfl | rfl | rfl <;> rfl

/-- A piece stands on a square; nothing does. -/
def standM (P : Nat → Int) (x k c : Int) : Bool := decide (P (sqI x) = k ∧ P (sqI x + 1) = c)
theorem eq_two {X Y : Nat → Int} : eqI 2 X Y = decide (X 0 = Y 0 ∧ X 1 = Y 1) := by
  rw [Bool.eq_iff_iff, eqI_iff, decide_eq_true_eq]
  constructor
  · intro h; exact ⟨h 0 (by omega), h 1 (by omega)⟩
  · rintro ⟨h0, h1⟩ i hi
    have : i = 0 ∨ i = 1 := by omega
    rcases this with rfl | rfl
    · exact h0
    · exact h1
def okM (P : Nat → Int) (s : Nat) : Prop := (P (sqI s) = 0 ∧ P (sqI s + 1) = 0) ∨ ((1 ≤ P (sqI s) ∧ P (sqI s) ≤ 6 ∧ (P (sqI s + 1) = 0 ∨ P (sqI s + 1) = 1)) ∧ ¬ (P (sqI s) = 1 ∧ (s < 8 ∨ 56 ≤ s)))
/-- The kings of a side on the first squares. -/
def kM (P : Nat → Int) (c : Int) : Nat → Int
  | 0 => 0
  | n + 1 => kM P c n + (if P (sqI n) = 6 ∧ P (sqI n + 1) = c then 1 else 0)
theorem kM_bd (P : Nat → Int) (c : Int) : ∀ n : Nat, 0 ≤ kM P c n ∧ kM P c n ≤ n
  | 0 => ⟨Int.le_refl _, Int.le_refl _⟩
  | n + 1 => by
    have := kM_bd P c n
    unfold kM
    split <;> omega
instance (P : Nat → Int) (s : Nat) : Decidable (okM P s) := by unfold okM; infer_instance
def piecesM (P : Nat → Int) : Bool := decide ((∀ s : Nat, s < 64 → okM P s) ∧ kM P 0 64 = 1 ∧ kM P 1 64 = 1 ∧ (P 128 = 0 ∨ P 128 = 1))
theorem pieces_no {P : Nat → Int} (h : ¬ ((∀ s : Nat, s < 64 → okM P s) ∧ kM P 0 64 = 1 ∧ kM P 1 64 = 1 ∧ (P 128 = 0 ∨ P 128 = 1))) : piecesM P = false := by
  unfold piecesM; exact decide_eq_false h
theorem pieces_yes {P : Nat → Int} (h : (∀ s : Nat, s < 64 → okM P s) ∧ kM P 0 64 = 1 ∧ kM P 1 64 = 1 ∧ (P 128 = 0 ∨ P 128 = 1)) : piecesM P = true := by
  unfold piecesM; exact decide_eq_true h
theorem pieces_is {P : Nat → Int} (h : piecesM P = true) : (∀ s : Nat, s < 64 → okM P s) ∧ kM P 0 64 = 1 ∧ kM P 1 64 = 1 ∧ (P 128 = 0 ∨ P 128 = 1) := by
  unfold piecesM at h; exact of_decide_eq_true h
theorem ok_next {P : Nat → Int} {i : Nat} (h : ∀ s : Nat, s < i → okM P s) (hi : okM P i) : ∀ s : Nat, s < i + 1 → okM P s := fun s hs => by
  by_cases e : s = i
  · subst e; exact hi
  · exact h s (by omega)
theorem kings_no {P C : Nat → Int} {i : Nat} (h0 : C 0 = kM P 0 i) (h1 : C 1 = kM P 1 i) (hk : ¬ P (sqI i) = 6) : C 0 = kM P 0 (i + 1) ∧ C 1 = kM P 1 (i + 1) := by
  unfold kM
  rw [if_neg (fun q => hk q.1), if_neg (fun q => hk q.1)]
  omega
theorem kings_yes {P C : Nat → Int} {i : Nat} (h0 : C 0 = kM P 0 i) (h1 : C 1 = kM P 1 i) (hk : P (sqI i) = 6) (hc : P (sqI i + 1) = 0 ∨ P (sqI i + 1) = 1) : ov C (0 + (P (sqI i + 1)).toNat * 1) (C (0 + (P (sqI i + 1)).toNat * 1) + 1) 0 = kM P 0 (i + 1) ∧ ov C (0 + (P (sqI i + 1)).toNat * 1) (C (0 + (P (sqI i + 1)).toNat * 1) + 1) 1 = kM P 1 (i + 1) := by
  unfold kM
  rcases hc with hc | hc
  · rw [if_pos ⟨hk, hc⟩, if_neg (by omega), hc]
    exact ⟨by show C 0 + 1 = _; omega, by show C 1 = _; omega⟩
  · rw [if_neg (by omega), if_pos ⟨hk, hc⟩, hc]
    exact ⟨by show C 0 = _; omega, by show C 1 + 1 = _; omega⟩
theorem king_bd {P C : Nat → Int} {i : Nat} (h0 : C 0 = kM P 0 i) (h1 : C 1 = kM P 1 i) (hi : i ≤ 64) (hc : P (sqI i + 1) = 0 ∨ P (sqI i + 1) = 1) : -9223372036854775808 ≤ C (0 + (P (sqI i + 1)).toNat * 1) + 1 ∧ C (0 + (P (sqI i + 1)).toNat * 1) + 1 ≤ 9223372036854775807 := by
  have := kM_bd P 0 i
  have := kM_bd P 1 i
  rcases hc with hc | hc
  · rw [hc]; show _ ≤ C 0 + 1 ∧ C 0 + 1 ≤ _; omega
  · rw [hc]; show _ ≤ C 1 + 1 ∧ C 1 + 1 ≤ _; omega
theorem dp_ix {P : Nat → Int} {i : Nat} : (fun j => ia P ((i : Int).toNat * 2 + j)) = ia (dp P (sqI i)) := by
  funext j
  show _ = ia P (0 + (i : Int).toNat * 2 + j)
  rw [Nat.zero_add]
theorem ovA2 {F X : Nat → Int} : ovA F 0 2 X 0 = X 0 ∧ ovA F 0 2 X 1 = X 1 := ⟨rfl, rfl⟩
def homeM (P : Nat → Int) (s a b : Int) : Bool := decide (P (sqI a) = 6 ∧ P (sqI a + 1) = s ∧ P (sqI b) = 4 ∧ P (sqI b + 1) = s)
def castlesM (P : Nat → Int) : Bool := decide ((0 ≤ P 129 ∧ P 129 ≤ 15) ∧ (P 129 % 2 = 0 ∨ homeM P 0 4 7 = true) ∧ (P 129 / 2 % 2 = 0 ∨ homeM P 0 4 0 = true) ∧ (P 129 / 4 % 2 = 0 ∨ homeM P 1 60 63 = true) ∧ (P 129 / 8 = 0 ∨ homeM P 1 60 56 = true))
def overOK (P : Nat → Int) : Bool := decide (P 130 = -1 ∨ ((0 ≤ P 130 ∧ P 130 < 64) ∧ P 131 = 0 ∧ ((P 128 = 1 ∧ P 130 / 8 = 2 ∧ standM P (P 130) 0 0 = true ∧ standM P (P 130 - 8) 0 0 = true ∧ standM P (P 130 + 8) 1 0 = true) ∨ (P 128 = 0 ∧ P 130 / 8 = 5 ∧ standM P (P 130) 0 0 = true ∧ standM P (P 130 + 8) 0 0 = true ∧ standM P (P 130 - 8) 1 1 = true))))
def rightM (P : Nat → Int) : Bool := piecesM P && castlesM P && overOK P && decide (0 ≤ P 131 ∧ P 131 ≤ 1024 ∧ 1 ≤ P 132 ∧ P 132 ≤ 16384)
theorem rank_in {x r : Int} (h : rankM x = r) (hr : 0 ≤ r) : (0 ≤ x ∧ x < 64) ∧ x / 8 = r := by
  unfold rankM at h
  split at h
  · exact ⟨by assumption, h⟩
  · omega
theorem step_is {x d : Int} (hx : 0 ≤ x ∧ x < 64) (h : 0 ≤ x / 8 + d ∧ x / 8 + d < 8) : stepM x 0 d = x + 8 * d := by
  unfold stepM atM
  rw [if_pos ⟨hx, by omega, by omega⟩, if_pos (by omega)]
  omega

theorem stands_run (P : Nat → Int) (k s x : Int) (hx : 0 ≤ x ∧ x < 64) : WR AM 40 [.agg 133 (ia P), .s (.int .i64 k), .s (.int .i64 s), .s (.int .i64 x)] [] (fun v _ _ => v = .s (.bool (standM P x k s))) := by
 refine WR_fn (a := a40) rfl rfl (entryF _) (entry_E (Nat.le_of_ble_eq_true rfl)) (m := 0) rfl ?_
 refine WP_seq ?_
 refine WP_ops ?_
 refine WO_boxA rfl ?_
 refine WO_mv rfl ?_
 refine WO_nil ?_
 refine WP_seq ?_
 refine WP_ops ?_
 refine WO_mv (v := .s (.int _ _)) rfl ?_
 refine WO_fa (o' := 0) rfl rfl rfl ?_
 refine WO_fa (o' := 0) rfl rfl rfl ?_
 refine WO_ixa rfl rfl rfl (by omega) ?_
 first | refine WO_ldA0 rfl rfl (.head _) ?_ | refine WO_ldAI rfl rfl (.head _) ?_
 refine WO_mv (v := .s (.int _ _)) rfl ?_
 refine WO_mv (v := .s (.int _ _)) rfl ?_
 refine WO_buildI rfl (.one rfl (.one rfl .nil)) ?_
 refine WO_eqa rfl rfl ?_
 refine WO_mv (v := .s (.bool _)) rfl ?_
 refine WO_nil ?_
 refine WP_ret ?_
 refine ⟨_, RS_tmp (v := .s (.bool _)) rfl (RS_nil), ?_⟩
 refine congrArg (fun b => V.s (S.bool b)) ?_
 exact eq_two
theorem free_run {md : Md} (P : Nat → Int) (x : Int) (hx : 0 ≤ x ∧ x < 64) : WR AM 41 [.s (.int .i64 x), .ptr 0 0 133] [.sc md 133 (ia P)] (fun v _ L => v = .s (.bool (standM P x 0 0)) ∧ (0, Blk.sc md 133 (ia P)) ∈ L) := by
 refine WR_fn (a := a41) rfl rfl (entryF _) (entry_E (Nat.le_of_ble_eq_true rfl)) (m := 1) rfl ?_
 refine WP_seq ?_
 refine WP_ops ?_
 refine WO_mv rfl ?_
 refine WO_nil ?_
 refine WP_seq ?_
 refine WP_ops ?_
 refine WO_mv (v := .s (.int _ _)) rfl ?_
 refine WO_fa (o' := 0) rfl rfl rfl ?_
 refine WO_fa (o' := 0) rfl rfl rfl ?_
 refine WO_ixa rfl rfl rfl (by omega) ?_
 first | refine WO_ldA0 rfl rfl (.head _) ?_ | refine WO_ldAI rfl rfl (.head _) ?_
 refine WO_buildI rfl .nil ?_
 refine WO_eqa rfl rfl ?_
 refine WO_mv (v := .s (.bool _)) rfl ?_
 refine WO_nil ?_
 refine WP_ret ?_
 refine ⟨_, RS_tmp (v := .s (.bool _)) rfl (RS_nil), ?_⟩
 refine ⟨congrArg (fun b => V.s (S.bool b)) ?_, (.head _)⟩
 exact eq_two
theorem castles_ok (P : Nat → Int) : WR AM 22 [.agg 133 (ia P)] [] (fun v _ _ => v = .s (.bool (castlesM P))) := by
 refine WR_fn (a := a22) rfl rfl (entryF _) (entry_E (Nat.le_of_ble_eq_true rfl)) (m := 0) rfl ?_
 refine WP_seq ?_
 refine WP_ops ?_
 refine WO_boxA rfl ?_
 refine WO_mv rfl ?_
 refine WO_nil ?_
 refine WP_seq ?_
 refine WP_seq ?_
 refine WP_ops ?_
 refine WO_fa (o' := 0) rfl rfl rfl ?_
 refine WO_fa (o' := 129) rfl rfl rfl ?_
 refine WO_ldI rfl rfl (.head _) rfl ?_
 refine WO_bin (r := .bool _) rfl rfl rfl ?_
 refine WO_mv (v := .s (.bool _)) rfl ?_
 refine WO_case (t := 10) rfl (fun h26 => ?_) (fun h26 => ?_)
 ·try simp only [NM] at h26
  try simp only [decide_eq_true_eq, decide_eq_false_iff_not] at h26
  refine WO_gf rfl rfl ?_
  refine WO_gf rfl rfl ?_
  refine WO_gf rfl rfl ?_
  refine WO_gf rfl rfl ?_
  refine WO_pick (v := .s (.bool _)) rfl rfl ?_
  refine WO_nil ?_
  refine WP_cond rfl (fun _ => ?_) (fun h => nomatch h)
  refine WP_seq ?_
  refine WP_ops ?_
  refine WO_mv rfl ?_
  refine WO_nil ?_
  refine WP_ret ?_
  refine ⟨_, RS_tmp (v := .s (.bool _)) rfl (RS_nil), ?_⟩
  refine congrArg (fun b => V.s (S.bool b)) ?_
  rw [Bool.eq_iff_iff]
  simp only [castlesM, homeM, standM, decide_eq_true_eq, decide_eq_false_iff_not, Bool.false_eq_true, false_iff, true_iff] at *
  omega
 ·try simp only [NM] at h26
  try simp only [decide_eq_true_eq, decide_eq_false_iff_not] at h26
  refine WO_gt rfl ?_
  refine WO_fa (o' := 0) rfl rfl rfl ?_
  refine WO_gt rfl ?_
  refine WO_fa (o' := 129) rfl rfl rfl ?_
  refine WO_gt rfl ?_
  refine WO_ldI rfl rfl (.head _) rfl ?_
  refine WO_gt rfl ?_
  refine WO_bin (r := .bool _) rfl rfl rfl ?_
  refine WO_pick (v := .s (.bool _)) rfl rfl ?_
  refine WO_nil ?_
  refine WP_cond rfl (fun h27 => ?_) (fun h27 => ?_)
  ·try simp only [NM] at h27
   try simp only [decide_eq_true_eq, decide_eq_false_iff_not] at h27
   refine WP_seq ?_
   refine WP_ops ?_
   refine WO_mv rfl ?_
   refine WO_nil ?_
   refine WP_ret ?_
   refine ⟨_, RS_tmp (v := .s (.bool _)) rfl (RS_nil), ?_⟩
   refine congrArg (fun b => V.s (S.bool b)) ?_
   rw [Bool.eq_iff_iff]
   simp only [castlesM, homeM, standM, decide_eq_true_eq, decide_eq_false_iff_not, Bool.false_eq_true, false_iff, true_iff] at *
   omega
  ·try simp only [NM] at h27
   try simp only [decide_eq_true_eq, decide_eq_false_iff_not] at h27
   refine WP_skip ?_
   refine WP_seq ?_
   refine WP_seq ?_
   refine WP_ops ?_
   refine WO_buildI rfl (.one rfl (.one rfl (.one rfl (.one rfl .nil)))) ?_
   refine WO_mv rfl ?_
   refine WO_nil ?_
   refine WP_block ?_
   refine WP_unrollI (fun f n L => (0 ≤ P 129 ∧ P 129 ≤ 15) ∧ (P 129 / 1 % 2 = 0 ∨ (P (sqI 4) = 6 ∧ P (sqI 4 + 1) = 0 ∧ P (sqI 7) = 4 ∧ P (sqI 7 + 1) = 0)) ∧ (f 1 = .ptr 0 0 133) ∧ (f 16 = .agg 4 (ia (ov (ov (ov (ov (fun _ => 0) 0 7) 1 0) 2 63) 3 56))) ∧ (f 17 = .s (.int .i64 1)) ∧ (L = [(0, .sc .var 133 (ia P))]) ∧ (n = 1)) ?_ (fun f nb L hI => ?_)
   ·skip
    refine WP_seq ?_
    refine WP_ops ?_
    refine WO_bin (r := .bool _) rfl rfl rfl ?_
    refine WO_nil ?_
    refine WP_seq ?_
    refine WP_cond rfl (fun h28 => ?_) (fun h28 => ?_)
    ·try simp only [NM] at h28
     try simp only [decide_eq_true_eq, decide_eq_false_iff_not] at h28
     refine WP_skip ?_
     refine WP_seq ?_
     refine WP_block ?_
     refine WP_seq ?_
     refine WP_ops ?_
     refine WO_mv (v := .s (.int _ _)) rfl ?_
     refine WO_ixS (a := .int .i64 7) rfl rfl rfl (by omega) rfl ?_
     refine WO_mv (v := .s (.int _ _)) rfl ?_
     refine WO_mv (v := .s (.int _ _)) rfl ?_
     refine WO_nil ?_
     refine WP_seq ?_
     refine WP_seq ?_
     refine WP_ops ?_
     refine WO_fa (o' := 0) rfl rfl rfl ?_
     refine WO_fa (o' := 129) rfl rfl rfl ?_
     refine WO_ldI rfl rfl (.head _) rfl ?_
     refine WO_mv (v := .s (.int _ _)) rfl ?_
     refine WO_bin rfl rfl (cast_shr0 ⟨by omega, by omega⟩) ?_
     refine WO_bin rfl rfl (cast_and1 ⟨by omega, by omega⟩) ?_
     refine WO_bin (r := .bool _) rfl rfl rfl ?_
     refine WO_nil ?_
     refine WP_cond rfl (fun h29 => ?_) (fun h29 => ?_)
     ·try simp only [NM] at h29
      try simp only [decide_eq_true_eq, decide_eq_false_iff_not] at h29
      refine WP_exit ?_
      refine xhere ?_
      refine WP_ops ?_
      refine WO_bin (r := .int .i64 1) rfl rfl rfl ?_
      refine WO_mv (v := .s (.int _ _)) rfl ?_
      refine WO_nil ?_
      refine ⟨_, (.cons_cons _ .slnil), ⟨by omega, by omega⟩, ?_, rfl, rfl, rfl, rfl, rfl⟩
      try simp only [standM, decide_eq_true_eq, decide_eq_false_iff_not] at *
      omega
     ·try simp only [NM] at h29
      try simp only [decide_eq_true_eq, decide_eq_false_iff_not] at h29
      refine WP_skip ?_
      refine WP_seq ?_
      refine WP_ops ?_
      refine WO_mv (v := .s (.int _ _)) rfl ?_
      refine WO_bin (r := .int .i64 0) rfl rfl rfl ?_
      refine WO_mv (v := .s (.int _ _)) rfl ?_
      refine WO_nil ?_
      refine WP_seq ?_
      refine WP_ops ?_
      first | refine WO_ldA0 rfl rfl (.head _) ?_ | refine WO_ldAI rfl rfl (.head _) ?_
      refine WO_mv (v := .s (.int _ _)) rfl ?_
      refine WO_mv (v := .s (.int _ _)) rfl ?_
      refine WO_call0 rfl (RF_of (stands_run _ _ _ _ (by omega))) rfl rfl rfl ?_
      refine WO_un (r := .bool _) rfl rfl ?_
      refine WO_mv (v := .s (.bool _)) rfl ?_
      refine WO_case (t := 35) rfl (fun h30 => ?_) (fun h30 => ?_)
      ·try simp only [NM] at h30
       try simp only [decide_eq_true_eq, decide_eq_false_iff_not] at h30
       refine WO_gf rfl rfl ?_
       refine WO_gf rfl rfl ?_
       refine WO_gf rfl rfl ?_
       refine WO_gf rfl rfl ?_
       refine WO_gf rfl rfl ?_
       refine WO_gf rfl rfl ?_
       refine WO_gf rfl rfl ?_
       refine WO_gf rfl rfl ?_
       refine WO_pick (v := .s (.bool _)) rfl rfl ?_
       refine WO_nil ?_
       refine WP_cond rfl (fun _ => ?_) (fun h => nomatch h)
       refine WP_seq ?_
       refine WP_ops ?_
       refine WO_mv rfl ?_
       refine WO_nil ?_
       refine WP_ret ?_
       refine ⟨_, RS_tmp (v := .s (.bool _)) rfl (RS_nil), ?_⟩
       refine congrArg (fun b => V.s (S.bool b)) ?_
       rw [Bool.eq_iff_iff]
       simp only [castlesM, homeM, standM, decide_eq_true_eq, decide_eq_false_iff_not, Bool.false_eq_true, false_iff, true_iff] at *
       omega
      ·try simp only [NM] at h30
       try simp only [decide_eq_true_eq, decide_eq_false_iff_not] at h30
       refine WO_gt rfl ?_
       first | refine WO_ldA0 rfl rfl (.head _) ?_ | refine WO_ldAI rfl rfl (.head _) ?_
       refine WO_gt rfl ?_
       refine WO_mv (v := .s (.int _ _)) rfl ?_
       refine WO_gt rfl ?_
       refine WO_mv (v := .s (.int _ _)) rfl ?_
       refine WO_gt rfl ?_
       refine WO_bin (r := .int .i64 0) rfl rfl rfl ?_
       refine WO_gt rfl ?_
       refine WO_bin (r := .int .i64 0) rfl rfl rfl ?_
       refine WO_gt rfl ?_
       refine WO_bin (r := .int .i64 4) rfl rfl rfl ?_
       refine WO_gt rfl ?_
       refine WO_call0 rfl (RF_of (stands_run _ _ _ _ (by omega))) rfl rfl rfl ?_
       refine WO_gt rfl ?_
       refine WO_un (r := .bool _) rfl rfl ?_
       refine WO_pick (v := .s (.bool _)) rfl rfl ?_
       refine WO_nil ?_
       refine WP_cond rfl (fun h31 => ?_) (fun h31 => ?_)
       ·try simp only [NM] at h31
        try simp only [decide_eq_true_eq, decide_eq_false_iff_not] at h31
        refine WP_seq ?_
        refine WP_ops ?_
        refine WO_mv rfl ?_
        refine WO_nil ?_
        refine WP_ret ?_
        refine ⟨_, RS_tmp (v := .s (.bool _)) rfl (RS_nil), ?_⟩
        refine congrArg (fun b => V.s (S.bool b)) ?_
        rw [Bool.eq_iff_iff]
        simp only [castlesM, homeM, standM, decide_eq_true_eq, decide_eq_false_iff_not, Bool.false_eq_true, false_iff, true_iff] at *
        omega
       ·try simp only [NM] at h31
        try simp only [decide_eq_true_eq, decide_eq_false_iff_not] at h31
        refine WP_skip ?_
        refine WP_ops ?_
        refine WO_bin (r := .int .i64 1) rfl rfl rfl ?_
        refine WO_mv (v := .s (.int _ _)) rfl ?_
        refine WO_nil ?_
        refine ⟨_, (.cons_cons _ .slnil), ⟨by omega, by omega⟩, ?_, rfl, rfl, rfl, rfl, rfl⟩
        try simp only [standM, decide_eq_true_eq, decide_eq_false_iff_not] at *
        omega
    ·try simp only [NM] at h28
     try simp only [decide_eq_true_eq, decide_eq_false_iff_not] at h28
     exfalso; omega
   ·skip
    obtain ⟨hC, hf0, k1, k16, k17, rfl, rfl⟩ := hI
    refine WP_know (d := 1) (v := .ptr 0 0 133) k1 ?_
    refine WP_know (d := 16) (v := .agg 4 (ia (ov (ov (ov (ov (fun _ => 0) 0 7) 1 0) 2 63) 3 56))) k16 ?_
    refine WP_know (d := 17) (v := .s (.int .i64 1)) k17 ?_
    refine WP_unrollI (fun f n L => (P 129 / 2 % 2 = 0 ∨ (P (sqI 4) = 6 ∧ P (sqI 4 + 1) = 0 ∧ P (sqI 0) = 4 ∧ P (sqI 0 + 1) = 0)) ∧ (f 1 = .ptr 0 0 133) ∧ (f 16 = .agg 4 (ia (ov (ov (ov (ov (fun _ => 0) 0 7) 1 0) 2 63) 3 56))) ∧ (f 17 = .s (.int .i64 2)) ∧ (L = [(0, .sc .var 133 (ia P))]) ∧ (n = 1)) ?_ (fun f nb L hI => ?_)
    ·skip
     refine WP_seq ?_
     refine WP_ops ?_
     refine WO_bin (r := .bool _) rfl rfl rfl ?_
     refine WO_nil ?_
     refine WP_seq ?_
     refine WP_cond rfl (fun h32 => ?_) (fun h32 => ?_)
     ·try simp only [NM] at h32
      try simp only [decide_eq_true_eq, decide_eq_false_iff_not] at h32
      refine WP_skip ?_
      refine WP_seq ?_
      refine WP_block ?_
      refine WP_seq ?_
      refine WP_ops ?_
      refine WO_mv (v := .s (.int _ _)) rfl ?_
      refine WO_ixS (a := .int .i64 0) rfl rfl rfl (by omega) rfl ?_
      refine WO_mv (v := .s (.int _ _)) rfl ?_
      refine WO_mv (v := .s (.int _ _)) rfl ?_
      refine WO_nil ?_
      refine WP_seq ?_
      refine WP_seq ?_
      refine WP_ops ?_
      refine WO_fa (o' := 0) rfl rfl rfl ?_
      refine WO_fa (o' := 129) rfl rfl rfl ?_
      refine WO_ldI rfl rfl (.head _) rfl ?_
      refine WO_mv (v := .s (.int _ _)) rfl ?_
      refine WO_bin rfl rfl (cast_shr1 ⟨by omega, by omega⟩) ?_
      refine WO_bin rfl rfl (cast_and1 ⟨by omega, by omega⟩) ?_
      refine WO_bin (r := .bool _) rfl rfl rfl ?_
      refine WO_nil ?_
      refine WP_cond rfl (fun h33 => ?_) (fun h33 => ?_)
      ·try simp only [NM] at h33
       try simp only [decide_eq_true_eq, decide_eq_false_iff_not] at h33
       refine WP_exit ?_
       refine xhere ?_
       refine WP_ops ?_
       refine WO_bin (r := .int .i64 2) rfl rfl rfl ?_
       refine WO_mv (v := .s (.int _ _)) rfl ?_
       refine WO_nil ?_
       refine ⟨_, (.cons_cons _ .slnil), ?_, rfl, rfl, rfl, rfl, rfl⟩
       try simp only [standM, decide_eq_true_eq, decide_eq_false_iff_not] at *
       omega
      ·try simp only [NM] at h33
       try simp only [decide_eq_true_eq, decide_eq_false_iff_not] at h33
       refine WP_skip ?_
       refine WP_seq ?_
       refine WP_ops ?_
       refine WO_mv (v := .s (.int _ _)) rfl ?_
       refine WO_bin (r := .int .i64 0) rfl rfl rfl ?_
       refine WO_mv (v := .s (.int _ _)) rfl ?_
       refine WO_nil ?_
       refine WP_seq ?_
       refine WP_ops ?_
       first | refine WO_ldA0 rfl rfl (.head _) ?_ | refine WO_ldAI rfl rfl (.head _) ?_
       refine WO_mv (v := .s (.int _ _)) rfl ?_
       refine WO_mv (v := .s (.int _ _)) rfl ?_
       refine WO_call0 rfl (RF_of (stands_run _ _ _ _ (by omega))) rfl rfl rfl ?_
       refine WO_un (r := .bool _) rfl rfl ?_
       refine WO_mv (v := .s (.bool _)) rfl ?_
       refine WO_case (t := 35) rfl (fun h34 => ?_) (fun h34 => ?_)
       ·try simp only [NM] at h34
        try simp only [decide_eq_true_eq, decide_eq_false_iff_not] at h34
        refine WO_gf rfl rfl ?_
        refine WO_gf rfl rfl ?_
        refine WO_gf rfl rfl ?_
        refine WO_gf rfl rfl ?_
        refine WO_gf rfl rfl ?_
        refine WO_gf rfl rfl ?_
        refine WO_gf rfl rfl ?_
        refine WO_gf rfl rfl ?_
        refine WO_pick (v := .s (.bool _)) rfl rfl ?_
        refine WO_nil ?_
        refine WP_cond rfl (fun _ => ?_) (fun h => nomatch h)
        refine WP_seq ?_
        refine WP_ops ?_
        refine WO_mv rfl ?_
        refine WO_nil ?_
        refine WP_ret ?_
        refine ⟨_, RS_tmp (v := .s (.bool _)) rfl (RS_nil), ?_⟩
        refine congrArg (fun b => V.s (S.bool b)) ?_
        rw [Bool.eq_iff_iff]
        simp only [castlesM, homeM, standM, decide_eq_true_eq, decide_eq_false_iff_not, Bool.false_eq_true, false_iff, true_iff] at *
        omega
       ·try simp only [NM] at h34
        try simp only [decide_eq_true_eq, decide_eq_false_iff_not] at h34
        refine WO_gt rfl ?_
        first | refine WO_ldA0 rfl rfl (.head _) ?_ | refine WO_ldAI rfl rfl (.head _) ?_
        refine WO_gt rfl ?_
        refine WO_mv (v := .s (.int _ _)) rfl ?_
        refine WO_gt rfl ?_
        refine WO_mv (v := .s (.int _ _)) rfl ?_
        refine WO_gt rfl ?_
        refine WO_bin (r := .int .i64 0) rfl rfl rfl ?_
        refine WO_gt rfl ?_
        refine WO_bin (r := .int .i64 0) rfl rfl rfl ?_
        refine WO_gt rfl ?_
        refine WO_bin (r := .int .i64 4) rfl rfl rfl ?_
        refine WO_gt rfl ?_
        refine WO_call0 rfl (RF_of (stands_run _ _ _ _ (by omega))) rfl rfl rfl ?_
        refine WO_gt rfl ?_
        refine WO_un (r := .bool _) rfl rfl ?_
        refine WO_pick (v := .s (.bool _)) rfl rfl ?_
        refine WO_nil ?_
        refine WP_cond rfl (fun h35 => ?_) (fun h35 => ?_)
        ·try simp only [NM] at h35
         try simp only [decide_eq_true_eq, decide_eq_false_iff_not] at h35
         refine WP_seq ?_
         refine WP_ops ?_
         refine WO_mv rfl ?_
         refine WO_nil ?_
         refine WP_ret ?_
         refine ⟨_, RS_tmp (v := .s (.bool _)) rfl (RS_nil), ?_⟩
         refine congrArg (fun b => V.s (S.bool b)) ?_
         rw [Bool.eq_iff_iff]
         simp only [castlesM, homeM, standM, decide_eq_true_eq, decide_eq_false_iff_not, Bool.false_eq_true, false_iff, true_iff] at *
         omega
        ·try simp only [NM] at h35
         try simp only [decide_eq_true_eq, decide_eq_false_iff_not] at h35
         refine WP_skip ?_
         refine WP_ops ?_
         refine WO_bin (r := .int .i64 2) rfl rfl rfl ?_
         refine WO_mv (v := .s (.int _ _)) rfl ?_
         refine WO_nil ?_
         refine ⟨_, (.cons_cons _ .slnil), ?_, rfl, rfl, rfl, rfl, rfl⟩
         try simp only [standM, decide_eq_true_eq, decide_eq_false_iff_not] at *
         omega
     ·try simp only [NM] at h32
      try simp only [decide_eq_true_eq, decide_eq_false_iff_not] at h32
      exfalso; omega
    ·skip
     obtain ⟨hf1, k1, k16, k17, rfl, rfl⟩ := hI
     refine WP_know (d := 1) (v := .ptr 0 0 133) k1 ?_
     refine WP_know (d := 16) (v := .agg 4 (ia (ov (ov (ov (ov (fun _ => 0) 0 7) 1 0) 2 63) 3 56))) k16 ?_
     refine WP_know (d := 17) (v := .s (.int .i64 2)) k17 ?_
     refine WP_unrollI (fun f n L => (P 129 / 4 % 2 = 0 ∨ (P (sqI 60) = 6 ∧ P (sqI 60 + 1) = 1 ∧ P (sqI 63) = 4 ∧ P (sqI 63 + 1) = 1)) ∧ (f 1 = .ptr 0 0 133) ∧ (f 16 = .agg 4 (ia (ov (ov (ov (ov (fun _ => 0) 0 7) 1 0) 2 63) 3 56))) ∧ (f 17 = .s (.int .i64 3)) ∧ (L = [(0, .sc .var 133 (ia P))]) ∧ (n = 1)) ?_ (fun f nb L hI => ?_)
     ·skip
      refine WP_seq ?_
      refine WP_ops ?_
      refine WO_bin (r := .bool _) rfl rfl rfl ?_
      refine WO_nil ?_
      refine WP_seq ?_
      refine WP_cond rfl (fun h36 => ?_) (fun h36 => ?_)
      ·try simp only [NM] at h36
       try simp only [decide_eq_true_eq, decide_eq_false_iff_not] at h36
       refine WP_skip ?_
       refine WP_seq ?_
       refine WP_block ?_
       refine WP_seq ?_
       refine WP_ops ?_
       refine WO_mv (v := .s (.int _ _)) rfl ?_
       refine WO_ixS (a := .int .i64 63) rfl rfl rfl (by omega) rfl ?_
       refine WO_mv (v := .s (.int _ _)) rfl ?_
       refine WO_mv (v := .s (.int _ _)) rfl ?_
       refine WO_nil ?_
       refine WP_seq ?_
       refine WP_seq ?_
       refine WP_ops ?_
       refine WO_fa (o' := 0) rfl rfl rfl ?_
       refine WO_fa (o' := 129) rfl rfl rfl ?_
       refine WO_ldI rfl rfl (.head _) rfl ?_
       refine WO_mv (v := .s (.int _ _)) rfl ?_
       refine WO_bin rfl rfl (cast_shr2 ⟨by omega, by omega⟩) ?_
       refine WO_bin rfl rfl (cast_and1 ⟨by omega, by omega⟩) ?_
       refine WO_bin (r := .bool _) rfl rfl rfl ?_
       refine WO_nil ?_
       refine WP_cond rfl (fun h37 => ?_) (fun h37 => ?_)
       ·try simp only [NM] at h37
        try simp only [decide_eq_true_eq, decide_eq_false_iff_not] at h37
        refine WP_exit ?_
        refine xhere ?_
        refine WP_ops ?_
        refine WO_bin (r := .int .i64 3) rfl rfl rfl ?_
        refine WO_mv (v := .s (.int _ _)) rfl ?_
        refine WO_nil ?_
        refine ⟨_, (.cons_cons _ .slnil), ?_, rfl, rfl, rfl, rfl, rfl⟩
        try simp only [standM, decide_eq_true_eq, decide_eq_false_iff_not] at *
        omega
       ·try simp only [NM] at h37
        try simp only [decide_eq_true_eq, decide_eq_false_iff_not] at h37
        refine WP_skip ?_
        refine WP_seq ?_
        refine WP_ops ?_
        refine WO_mv (v := .s (.int _ _)) rfl ?_
        refine WO_bin (r := .int .i64 1) rfl rfl rfl ?_
        refine WO_mv (v := .s (.int _ _)) rfl ?_
        refine WO_nil ?_
        refine WP_seq ?_
        refine WP_ops ?_
        first | refine WO_ldA0 rfl rfl (.head _) ?_ | refine WO_ldAI rfl rfl (.head _) ?_
        refine WO_mv (v := .s (.int _ _)) rfl ?_
        refine WO_mv (v := .s (.int _ _)) rfl ?_
        refine WO_call0 rfl (RF_of (stands_run _ _ _ _ (by omega))) rfl rfl rfl ?_
        refine WO_un (r := .bool _) rfl rfl ?_
        refine WO_mv (v := .s (.bool _)) rfl ?_
        refine WO_case (t := 35) rfl (fun h38 => ?_) (fun h38 => ?_)
        ·try simp only [NM] at h38
         try simp only [decide_eq_true_eq, decide_eq_false_iff_not] at h38
         refine WO_gf rfl rfl ?_
         refine WO_gf rfl rfl ?_
         refine WO_gf rfl rfl ?_
         refine WO_gf rfl rfl ?_
         refine WO_gf rfl rfl ?_
         refine WO_gf rfl rfl ?_
         refine WO_gf rfl rfl ?_
         refine WO_gf rfl rfl ?_
         refine WO_pick (v := .s (.bool _)) rfl rfl ?_
         refine WO_nil ?_
         refine WP_cond rfl (fun _ => ?_) (fun h => nomatch h)
         refine WP_seq ?_
         refine WP_ops ?_
         refine WO_mv rfl ?_
         refine WO_nil ?_
         refine WP_ret ?_
         refine ⟨_, RS_tmp (v := .s (.bool _)) rfl (RS_nil), ?_⟩
         refine congrArg (fun b => V.s (S.bool b)) ?_
         rw [Bool.eq_iff_iff]
         simp only [castlesM, homeM, standM, decide_eq_true_eq, decide_eq_false_iff_not, Bool.false_eq_true, false_iff, true_iff] at *
         omega
        ·try simp only [NM] at h38
         try simp only [decide_eq_true_eq, decide_eq_false_iff_not] at h38
         refine WO_gt rfl ?_
         first | refine WO_ldA0 rfl rfl (.head _) ?_ | refine WO_ldAI rfl rfl (.head _) ?_
         refine WO_gt rfl ?_
         refine WO_mv (v := .s (.int _ _)) rfl ?_
         refine WO_gt rfl ?_
         refine WO_mv (v := .s (.int _ _)) rfl ?_
         refine WO_gt rfl ?_
         refine WO_bin (r := .int .i64 7) rfl rfl rfl ?_
         refine WO_gt rfl ?_
         refine WO_bin (r := .int .i64 56) rfl rfl rfl ?_
         refine WO_gt rfl ?_
         refine WO_bin (r := .int .i64 60) rfl rfl rfl ?_
         refine WO_gt rfl ?_
         refine WO_call0 rfl (RF_of (stands_run _ _ _ _ (by omega))) rfl rfl rfl ?_
         refine WO_gt rfl ?_
         refine WO_un (r := .bool _) rfl rfl ?_
         refine WO_pick (v := .s (.bool _)) rfl rfl ?_
         refine WO_nil ?_
         refine WP_cond rfl (fun h39 => ?_) (fun h39 => ?_)
         ·try simp only [NM] at h39
          try simp only [decide_eq_true_eq, decide_eq_false_iff_not] at h39
          refine WP_seq ?_
          refine WP_ops ?_
          refine WO_mv rfl ?_
          refine WO_nil ?_
          refine WP_ret ?_
          refine ⟨_, RS_tmp (v := .s (.bool _)) rfl (RS_nil), ?_⟩
          refine congrArg (fun b => V.s (S.bool b)) ?_
          rw [Bool.eq_iff_iff]
          simp only [castlesM, homeM, standM, decide_eq_true_eq, decide_eq_false_iff_not, Bool.false_eq_true, false_iff, true_iff] at *
          omega
         ·try simp only [NM] at h39
          try simp only [decide_eq_true_eq, decide_eq_false_iff_not] at h39
          refine WP_skip ?_
          refine WP_ops ?_
          refine WO_bin (r := .int .i64 3) rfl rfl rfl ?_
          refine WO_mv (v := .s (.int _ _)) rfl ?_
          refine WO_nil ?_
          refine ⟨_, (.cons_cons _ .slnil), ?_, rfl, rfl, rfl, rfl, rfl⟩
          try simp only [standM, decide_eq_true_eq, decide_eq_false_iff_not] at *
          omega
      ·try simp only [NM] at h36
       try simp only [decide_eq_true_eq, decide_eq_false_iff_not] at h36
       exfalso; omega
     ·skip
      obtain ⟨hf2, k1, k16, k17, rfl, rfl⟩ := hI
      refine WP_know (d := 1) (v := .ptr 0 0 133) k1 ?_
      refine WP_know (d := 16) (v := .agg 4 (ia (ov (ov (ov (ov (fun _ => 0) 0 7) 1 0) 2 63) 3 56))) k16 ?_
      refine WP_know (d := 17) (v := .s (.int .i64 3)) k17 ?_
      refine WP_unrollI (fun f n L => (P 129 / 8 % 2 = 0 ∨ (P (sqI 60) = 6 ∧ P (sqI 60 + 1) = 1 ∧ P (sqI 56) = 4 ∧ P (sqI 56 + 1) = 1)) ∧ (f 1 = .ptr 0 0 133) ∧ (f 16 = .agg 4 (ia (ov (ov (ov (ov (fun _ => 0) 0 7) 1 0) 2 63) 3 56))) ∧ (f 17 = .s (.int .i64 4)) ∧ (L = [(0, .sc .var 133 (ia P))]) ∧ (n = 1)) ?_ (fun f nb L hI => ?_)
      ·skip
       refine WP_seq ?_
       refine WP_ops ?_
       refine WO_bin (r := .bool _) rfl rfl rfl ?_
       refine WO_nil ?_
       refine WP_seq ?_
       refine WP_cond rfl (fun h40 => ?_) (fun h40 => ?_)
       ·try simp only [NM] at h40
        try simp only [decide_eq_true_eq, decide_eq_false_iff_not] at h40
        refine WP_skip ?_
        refine WP_seq ?_
        refine WP_block ?_
        refine WP_seq ?_
        refine WP_ops ?_
        refine WO_mv (v := .s (.int _ _)) rfl ?_
        refine WO_ixS (a := .int .i64 56) rfl rfl rfl (by omega) rfl ?_
        refine WO_mv (v := .s (.int _ _)) rfl ?_
        refine WO_mv (v := .s (.int _ _)) rfl ?_
        refine WO_nil ?_
        refine WP_seq ?_
        refine WP_seq ?_
        refine WP_ops ?_
        refine WO_fa (o' := 0) rfl rfl rfl ?_
        refine WO_fa (o' := 129) rfl rfl rfl ?_
        refine WO_ldI rfl rfl (.head _) rfl ?_
        refine WO_mv (v := .s (.int _ _)) rfl ?_
        refine WO_bin rfl rfl (cast_shr3 ⟨by omega, by omega⟩) ?_
        refine WO_bin rfl rfl (cast_and1 ⟨by omega, by omega⟩) ?_
        refine WO_bin (r := .bool _) rfl rfl rfl ?_
        refine WO_nil ?_
        refine WP_cond rfl (fun h41 => ?_) (fun h41 => ?_)
        ·try simp only [NM] at h41
         try simp only [decide_eq_true_eq, decide_eq_false_iff_not] at h41
         refine WP_exit ?_
         refine xhere ?_
         refine WP_ops ?_
         refine WO_bin (r := .int .i64 4) rfl rfl rfl ?_
         refine WO_mv (v := .s (.int _ _)) rfl ?_
         refine WO_nil ?_
         refine ⟨_, (.cons_cons _ .slnil), ?_, rfl, rfl, rfl, rfl, rfl⟩
         try simp only [standM, decide_eq_true_eq, decide_eq_false_iff_not] at *
         omega
        ·try simp only [NM] at h41
         try simp only [decide_eq_true_eq, decide_eq_false_iff_not] at h41
         refine WP_skip ?_
         refine WP_seq ?_
         refine WP_ops ?_
         refine WO_mv (v := .s (.int _ _)) rfl ?_
         refine WO_bin (r := .int .i64 1) rfl rfl rfl ?_
         refine WO_mv (v := .s (.int _ _)) rfl ?_
         refine WO_nil ?_
         refine WP_seq ?_
         refine WP_ops ?_
         first | refine WO_ldA0 rfl rfl (.head _) ?_ | refine WO_ldAI rfl rfl (.head _) ?_
         refine WO_mv (v := .s (.int _ _)) rfl ?_
         refine WO_mv (v := .s (.int _ _)) rfl ?_
         refine WO_call0 rfl (RF_of (stands_run _ _ _ _ (by omega))) rfl rfl rfl ?_
         refine WO_un (r := .bool _) rfl rfl ?_
         refine WO_mv (v := .s (.bool _)) rfl ?_
         refine WO_case (t := 35) rfl (fun h42 => ?_) (fun h42 => ?_)
         ·try simp only [NM] at h42
          try simp only [decide_eq_true_eq, decide_eq_false_iff_not] at h42
          refine WO_gf rfl rfl ?_
          refine WO_gf rfl rfl ?_
          refine WO_gf rfl rfl ?_
          refine WO_gf rfl rfl ?_
          refine WO_gf rfl rfl ?_
          refine WO_gf rfl rfl ?_
          refine WO_gf rfl rfl ?_
          refine WO_gf rfl rfl ?_
          refine WO_pick (v := .s (.bool _)) rfl rfl ?_
          refine WO_nil ?_
          refine WP_cond rfl (fun _ => ?_) (fun h => nomatch h)
          refine WP_seq ?_
          refine WP_ops ?_
          refine WO_mv rfl ?_
          refine WO_nil ?_
          refine WP_ret ?_
          refine ⟨_, RS_tmp (v := .s (.bool _)) rfl (RS_nil), ?_⟩
          refine congrArg (fun b => V.s (S.bool b)) ?_
          rw [Bool.eq_iff_iff]
          simp only [castlesM, homeM, standM, decide_eq_true_eq, decide_eq_false_iff_not, Bool.false_eq_true, false_iff, true_iff] at *
          omega
         ·try simp only [NM] at h42
          try simp only [decide_eq_true_eq, decide_eq_false_iff_not] at h42
          refine WO_gt rfl ?_
          first | refine WO_ldA0 rfl rfl (.head _) ?_ | refine WO_ldAI rfl rfl (.head _) ?_
          refine WO_gt rfl ?_
          refine WO_mv (v := .s (.int _ _)) rfl ?_
          refine WO_gt rfl ?_
          refine WO_mv (v := .s (.int _ _)) rfl ?_
          refine WO_gt rfl ?_
          refine WO_bin (r := .int .i64 7) rfl rfl rfl ?_
          refine WO_gt rfl ?_
          refine WO_bin (r := .int .i64 56) rfl rfl rfl ?_
          refine WO_gt rfl ?_
          refine WO_bin (r := .int .i64 60) rfl rfl rfl ?_
          refine WO_gt rfl ?_
          refine WO_call0 rfl (RF_of (stands_run _ _ _ _ (by omega))) rfl rfl rfl ?_
          refine WO_gt rfl ?_
          refine WO_un (r := .bool _) rfl rfl ?_
          refine WO_pick (v := .s (.bool _)) rfl rfl ?_
          refine WO_nil ?_
          refine WP_cond rfl (fun h43 => ?_) (fun h43 => ?_)
          ·try simp only [NM] at h43
           try simp only [decide_eq_true_eq, decide_eq_false_iff_not] at h43
           refine WP_seq ?_
           refine WP_ops ?_
           refine WO_mv rfl ?_
           refine WO_nil ?_
           refine WP_ret ?_
           refine ⟨_, RS_tmp (v := .s (.bool _)) rfl (RS_nil), ?_⟩
           refine congrArg (fun b => V.s (S.bool b)) ?_
           rw [Bool.eq_iff_iff]
           simp only [castlesM, homeM, standM, decide_eq_true_eq, decide_eq_false_iff_not, Bool.false_eq_true, false_iff, true_iff] at *
           omega
          ·try simp only [NM] at h43
           try simp only [decide_eq_true_eq, decide_eq_false_iff_not] at h43
           refine WP_skip ?_
           refine WP_ops ?_
           refine WO_bin (r := .int .i64 4) rfl rfl rfl ?_
           refine WO_mv (v := .s (.int _ _)) rfl ?_
           refine WO_nil ?_
           refine ⟨_, (.cons_cons _ .slnil), ?_, rfl, rfl, rfl, rfl, rfl⟩
           try simp only [standM, decide_eq_true_eq, decide_eq_false_iff_not] at *
           omega
       ·try simp only [NM] at h40
        try simp only [decide_eq_true_eq, decide_eq_false_iff_not] at h40
        exfalso; omega
      ·skip
       obtain ⟨hf3, k1, k16, k17, rfl, rfl⟩ := hI
       refine WP_know (d := 1) (v := .ptr 0 0 133) k1 ?_
       refine WP_know (d := 16) (v := .agg 4 (ia (ov (ov (ov (ov (fun _ => 0) 0 7) 1 0) 2 63) 3 56))) k16 ?_
       refine WP_know (d := 17) (v := .s (.int .i64 4)) k17 ?_
       refine WP_unroll ?_
       refine WP_seq ?_
       refine WP_ops ?_
       refine WO_bin (r := .bool _) rfl rfl rfl ?_
       refine WO_nil ?_
       refine WP_seq ?_
       refine WP_cond rfl (fun h44 => ?_) (fun h44 => ?_)
       ·try simp only [NM] at h44
        try simp only [decide_eq_true_eq, decide_eq_false_iff_not] at h44
        exfalso; omega
       ·try simp only [NM] at h44
        try simp only [decide_eq_true_eq, decide_eq_false_iff_not] at h44
        refine WP_exit ?_
        refine xhere ?_
        refine WP_seq ?_
        refine WP_ops ?_
        refine WO_mv rfl ?_
        refine WO_nil ?_
        refine WP_ret ?_
        refine ⟨_, RS_tmp (v := .s (.bool _)) rfl (RS_nil), ?_⟩
        refine congrArg (fun b => V.s (S.bool b)) ?_
        rw [Bool.eq_iff_iff]
        simp only [castlesM, homeM, standM, decide_eq_true_eq, decide_eq_false_iff_not, Bool.false_eq_true, false_iff, true_iff] at *
        omega
end Go.Proofs.YtlaogmemhephnaaDoor
