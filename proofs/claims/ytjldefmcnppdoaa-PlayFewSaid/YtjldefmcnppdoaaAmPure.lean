/- The abstract machine's operations without memory, held against the model's. -/
import Derived.Test.YtjldefmcnppdoaaAmRel
import Derived.Test.YtjldefmcnppdoaaAmComp
namespace Go.Am
open Go

theorem constV_R {v : Value} {x : V} (h : constV v = some x) (ι : Inj) : VR ι x v := by
  unfold constV at h
  split at h <;> simp at h <;> subst h <;> simp [VR, S.val]

theorem opd_R {ι : Inj} {e : Env} {a : Act} {x : Operand} {o : O} (h : opd x = some o) (hE : EnvR ι e a.tmps) : VR ι (o.ev e) (a.eval x) := by
  cases x with
  | tmp t => simp [opd] at h; subst h; exact hE.get t
  | const v =>
    simp [opd] at h
    obtain ⟨y, hy, rfl⟩ := h
    exact constV_R hy ι
  | global g => simp [opd] at h
  | func f => simp [opd] at h; subst h; exact ⟨[], by simp [Act.eval], by simp [VRL]⟩

theorem opds_R {ι : Inj} {e : Env} {a : Act} (hE : EnvR ι e a.tmps) : ∀ {l : List Operand} {os : List O}, opds l = some os → VRL ι (os.map (·.ev e)) (l.map a.eval)
  | [], _, h => by simp [opds] at h; subst h; simp [VRL]
  | x :: l, _, h => by
    unfold opds at h
    split at h
    · rename_i o os h1 h2
      injection h with h
      subst h
      simp only [List.map_cons, VRL]
      exact ⟨_, _, rfl, opd_R h1 hE, opds_R hE h2⟩
    · simp at h

theorem opt_R {ι : Inj} {e : Env} {a : Act} {x : Option Operand} {o : Option O} (h : opt x = some o) (hE : EnvR ι e a.tmps) :
    match x, o with
    | none, none => True
    | some x, some o => VR ι (o.ev e) (a.eval x)
    | _, _ => False := by
  cases x with
  | none => simp [opt] at h; subst h; trivial
  | some x =>
    simp [opt] at h
    obtain ⟨y, hy, rfl⟩ := h
    exact opd_R hy hE

/-- The model's operation comes to what the machine's says. -/
def PureOK (P : Program) (op : Op) (i : PIns) : Prop :=
  ∀ (ι : Inj) (e : Env) (a : Act) (x : V) (o : Oper), o.op = op → EnvR ι e a.tmps → pureV i e = some x →
    ∃ v, VR ι x v ∧ ∀ W, (execOp a.eval o).run P W = .ok (.value v) W

theorem pure_move {P : Program} {x : Operand} {o : O} (h : opd x = some o) : PureOK P (.move x) (.mv o) := by
  intro ι e a y op ho hE hv
  simp only [pureV, Option.some.injEq] at hv
  subst hv
  exact ⟨_, opd_R h hE, fun W => by simp [execOp, ho]⟩

theorem pure_assign {P : Program} {x : Operand} {o : O} (h : opd x = some o) : PureOK P (.assign x) (.mv o) := by
  intro ι e a y op ho hE hv
  simp only [pureV, Option.some.injEq] at hv
  subst hv
  exact ⟨_, opd_R h hE, fun W => by simp [execOp, ho]⟩

theorem pure_pick {P : Program} {c x y : Operand} {c' x' y' : O} (hc : opd c = some c') (hx : opd x = some x') (hy : opd y = some y') : PureOK P (.pick c x y) (.pick c' x' y') := by
  intro ι e a z op ho hE hv
  have rc := opd_R hc hE
  have rx := opd_R hx hE
  have ry := opd_R hy hE
  simp only [pureV] at hv
  split at hv
  · rename_i t ht
    rw [ht] at rc
    simp only [VR, S.val] at rc
    injection hv with hv
    subst hv
    cases t
    · exact ⟨_, ry, fun W => by simp [execOp, ho, rc, asBool]⟩
    · exact ⟨_, rx, fun W => by simp [execOp, ho, rc, asBool]⟩
  · simp at hv

theorem pure_nilck {P : Program} {x : Operand} {x' : O} (hx : opd x = some x') : PureOK P (.nilCheck x) (.nilck x') := by
  intro ι e a z op ho hE hv
  have rx := opd_R hx hE
  simp only [pureV] at hv
  split at hv
  · rename_i b o z' hb
    injection hv with hv
    subst hv
    rw [hb] at rx
    refine ⟨_, rx, fun W => ?_⟩
    simp only [VR] at rx
    obtain ⟨p, _, _, rx⟩ := rx
    simp [execOp, ho, rx]
  · rename_i f l hb
    injection hv with hv
    subst hv
    rw [hb] at rx
    refine ⟨_, rx, fun W => ?_⟩
    simp only [VR] at rx
    obtain ⟨p, rx, _⟩ := rx
    simp [execOp, ho, rx]
  · simp at hv

theorem binS_val {P : Program} {op : BinOp} {a b c : S} (t : TypeId) (h : binS op a b = some c) (W : World) : (binOp op t a.val b.val).run P W = .ok c.val W := by
  cases a with
  | int k a =>
    cases b with
    | int k' b =>
      by_cases hs : op = .shl ∨ op = .shr
      · rcases hs with rfl | rfl
        · simp only [binS, shiftS] at h
          split at h
          · simp at h
          · rename_i hb
            injection h with h
            subst h
            simp [binOp, S.val, Op.shift, hb]
        · simp only [binS, shiftS] at h
          split at h
          · simp at h
          · rename_i hb
            injection h with h
            subst h
            simp [binOp, S.val, Op.shift, hb]
      · have h' : (if k = k' then binInt op k a b else none) = some c := by
          revert h
          cases op <;> simp_all [binS]
        split at h'
        · rename_i hk
          subst hk
          unfold binInt at h'
          split at h' <;> simp_all [binOp, S.val, Op.intArith, Op.intDiv, Op.intCmp]
          all_goals try (subst h'; rfl)
          · obtain ⟨_, rfl⟩ := h'
            rfl
          · obtain ⟨_, rfl⟩ := h'
            rfl
          · unfold intBits at h'
            cases op <;> simp_all [Op.intBits] <;> (subst h'; rfl)
        · simp at h'
    | bool b => cases op <;> simp [binS] at h
    | str b => cases op <;> simp [binS] at h
  | bool a => cases op <;> cases b <;> simp [binS] at h
  | str a =>
    cases b with
    | int k' b => cases op <;> simp [binS] at h
    | bool b => cases op <;> simp [binS] at h
    | str b =>
      have h' : binStr op a b = some c := by
        revert h
        cases op <;> simp [binS]
      unfold binStr at h'
      split at h'
      · split at h'
        · simp at h'
        · rename_i hb
          injection h' with h'
          subst h'
          simp only [binOp, S.val, Op.stringOp]
          rw [if_neg hb]
          rfl
      · injection h' with h'; subst h'; simp [binOp, S.val, Op.stringOp]
      · injection h' with h'; subst h'; simp [binOp, S.val, Op.stringOp]
      · simp at h'

theorem eqGuard_S {P : Program} (op : BinOp) (t : TypeId) (x y : Operand) (a b : S) (W : World) : (eqGuard op t x y a.val b.val).run P W = .ok () W := by
  cases op <;> cases a <;> cases b <;> simp [eqGuard, S.val]

theorem pure_bin {P : Program} {op : BinOp} {t u : TypeId} {x y : Operand} {x' y' : O} (hx : opd x = some x') (hy : opd y = some y') : PureOK P (.binOp op t x y u) (.bin op x' y') := by
  intro ι e a z o ho hE hv
  have rx := opd_R hx hE
  have ry := opd_R hy hE
  simp only [pureV] at hv
  split at hv
  · rename_i p q hp hq
    rw [hp] at rx
    rw [hq] at ry
    simp only [VR] at rx ry
    cases hb : binS op p q with
    | none => simp [hb] at hv
    | some c =>
      simp [hb] at hv
      subst hv
      exact ⟨c.val, by simp [VR], fun W => by simp [execOp, ho, rx, ry, eqGuard_S, binS_val t hb]⟩
  · simp at hv

theorem run_equalIn_bool {P : Program} (d : Nat) {t : TypeId} (p q : Bool) (ht : P.underlying t = some .bool) (W : World) : (Op.equalIn (d + 1) t (.bool p) (.bool q)).run P W = .ok (p == q) W := by
  simp [Op.equalIn, run_underlying ht]

theorem pure_eqb {P : Program} {neg : Bool} {t u : TypeId} {x y : Operand} {x' y' : O} (ht : P.underlying t = some .bool) (hx : opd x = some x') (hy : opd y = some y') :
    PureOK P (.binOp (bif neg then .neq else .eql) t x y u) (.eqb neg x' y') := by
  intro ι e a z o ho hE hv
  have rx := opd_R hx hE
  have ry := opd_R hy hE
  simp only [pureV] at hv
  split at hv
  · rename_i p q hp hq
    rw [hp] at rx
    rw [hq] at ry
    simp only [VR, S.val] at rx ry
    injection hv with hv
    subst hv
    refine ⟨_, rfl, fun W => ?_⟩
    have hu : (Op.equal t (.bool p) (.bool q)).run P W = .ok (p == q) W := run_equalIn_bool 9999 p q ht W
    have hg := fun op => eqGuard_S (P := P) op t x y (.bool p) (.bool q) W
    simp only [S.val] at hg
    cases neg <;> simp [execOp, ho, rx, ry, hg, binOp, hu, S.val]
  · simp at hv

theorem unS_val {P : Program} {op : UnOp} {a c : S} (h : unS op a = some c) (W : World) : (Op.unary op a.val).run P W = .ok c.val W := by
  unfold unS at h
  split at h <;> simp at h <;> subst h <;> simp [Op.unary, Op.intArith, S.val]

theorem pure_un {P : Program} {op : UnOp} {t : TypeId} {x : Operand} {x' : O} (hx : opd x = some x') : PureOK P (.unOp op t x) (.un op x') := by
  intro ι e a z o ho hE hv
  have rx := opd_R hx hE
  simp only [pureV] at hv
  split at hv
  · rename_i p hp
    rw [hp] at rx
    simp only [VR] at rx
    cases hb : unS op p with
    | none => simp [hb] at hv
    | some c =>
      simp [hb] at hv
      subst hv
      exact ⟨c.val, by simp [VR], fun W => by simp [execOp, ho, rx, unS_val hb]⟩
  · simp at hv

theorem pure_conv {P : Program} {s d : TypeId} {x : Operand} {x' : O} {k k0 : IntKind} (hs : P.underlying s = some (.int k0)) (hd : P.underlying d = some (.int k)) (hx : opd x = some x') : PureOK P (.convert s d x) (.conv k x') := by
  intro ι e a z o ho hE hv
  have rx := opd_R hx hE
  simp only [pureV] at hv
  split at hv
  · rename_i j n hp
    rw [hp] at rx
    simp only [VR, S.val] at rx
    injection hv with hv
    subst hv
    refine ⟨_, rfl, fun W => ?_⟩
    have h1 : (underlying s).run P W = .ok (.int k0) W := run_underlying hs W
    have h2 : (underlying d).run P W = .ok (.int k) W := run_underlying hd W
    simp [execOp, ho, rx, convert, h1, h2, Conv.intToInt, S.val]
  · simp at hv

theorem pure_mkfn {P : Program} {f : FuncId} {first caps : Array Operand} {os : List O} (hf : first.size = 0) (hc : opds caps.toList = some os) : PureOK P (.makeFunc (.func f) first caps) (.mkfn f os) := by
  intro ι e a z o ho hE hv
  simp only [pureV, Option.some.injEq] at hv
  subst hv
  have h0 : first = #[] := by simpa using hf
  subst h0
  refine ⟨.func (.func f) #[] (caps.map a.eval), ?_, fun W => by simp [execOp, ho, Instr.makeFunc]⟩
  exact ⟨caps.toList.map a.eval, by rw [Value.func.injEq]; exact ⟨rfl, rfl, Array.toList_inj.1 (by simp)⟩, opds_R hE hc⟩

theorem pure_ext {P : Program} {x : Operand} {i : Nat} {x' : O} (hx : opd x = some x') : PureOK P (.extract x i) (.ext x' i) := by
  intro ι e a z o ho hE hv
  have rx := opd_R hx hE
  simp only [pureV] at hv
  split at hv
  · rename_i l hl
    rw [hl] at rx
    simp only [VR] at rx
    obtain ⟨cs, hcs, hr⟩ := rx
    obtain ⟨v, h1, h2⟩ := VRL.at hr i z hv
    exact ⟨v, h2, fun W => by simp [execOp, ho, hcs, Instr.extract, h1]⟩
  · simp at hv

end Go.Am
