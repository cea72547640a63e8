/- The abstract machine's operations without memory: equality, nil, what is cut. -/
import Derived.Test.YtjldefmcnppdoaaAmPureC
import Derived.Laws.StructEq
namespace Go.Am
open Go

theorem allB_iff {n : Nat} {f : Nat → Bool} : allB n f = true ↔ ∀ i, i < n → f i = true := by
  induction n with
  | zero => simp [allB]
  | succ n ih =>
    simp only [allB, Bool.and_eq_true, ih]
    constructor
    · rintro ⟨h1, h2⟩ i hi
      by_cases e : i = n
      · subst e; exact h2
      · exact h1 i (by omega)
    · intro h
      exact ⟨fun i hi => h i (by omega), h n (by omega)⟩

theorem allB_add (n m : Nat) (f : Nat → Bool) : allB (n + m) f = (allB n f && allB m (fun i => f (n + i))) := by
  induction m with
  | zero => simp [allB]
  | succ m ih => rw [← Nat.add_assoc]; simp only [allB]; rw [ih, Bool.and_assoc]

theorem fits_int {a b : S} (h : a.fits b = true) : ∃ k x y, a = .int k x ∧ b = .int k y := by
  unfold S.fits at h
  split at h
  · rename_i k x k' y
    have := of_decide_eq_true h
    subst this
    exact ⟨k, x, y, rfl, rfl⟩
  · simp at h

/-- The model's equality of two rows of whole numbers. -/
def FlatEq (P : Program) (d : Nat) : Prop := ∀ t n, flatN P d t = some n → aggT P t = some true → ∀ (X Y : Array Value) (g h : Nat → S) (D : Nat) (W : World), d ≤ D →
  (∀ j, j < n → X[j]? = some (g j).val) → (∀ j, j < n → Y[j]? = some (h j).val) → (∀ j, j < n → (g j).fits (h j) = true) →
  (Op.equalIn D t (.agg X) (.agg Y)).run P W = .ok (allB n fun j => (g j).eqB (h j)) W

/-- A part's equality, the parts taken out. -/
theorem flat_part {P : Program} {d : Nat} (ih : FlatEq P d) {t : TypeId} {n : Nat} (hf : flatN P d t = some n) (hs : sizeT P t = some n) (X Y : Array Value) (o : Nat) (g h : Nat → S) (D : Nat) (W : World) (hD : d ≤ D)
    (hX : ∀ j, j < n → X[o + j]? = some (g j).val) (hY : ∀ j, j < n → Y[o + j]? = some (h j).val) (hk : ∀ j, j < n → (g j).fits (h j) = true) :
    ∃ a b, (∀ W, (part t X o).run P W = .ok a W) ∧ (∀ W, (part t Y o).run P W = .ok b W) ∧ (Op.equalIn D t a b).run P W = .ok (allB n fun j => (g j).eqB (h j)) W := by
  cases d with
  | zero => simp [flatN] at hf
  | succ d =>
    obtain ⟨D, rfl⟩ : ∃ D', D = D' + 1 := ⟨D - 1, by omega⟩
    by_cases ha : aggT P t = some true
    · refine ⟨.agg (X.extract o (o + n)), .agg (Y.extract o (o + n)), fun W => by rw [run_part ha hs]; rfl, fun W => by rw [run_part ha hs]; rfl, ?_⟩
      refine ih t n hf ha _ _ g h (D + 1) W hD ?_ ?_ hk
      · intro j hj
        rw [Array.getElem?_extract]
        rw [if_pos]
        · exact hX j hj
        · have := hX j hj
          have hlt : o + j < X.size := by
            rcases Nat.lt_or_ge (o + j) X.size with h | h
            · exact h
            · rw [Array.getElem?_eq_none h] at this; simp at this
          omega
      · intro j hj
        rw [Array.getElem?_extract]
        rw [if_pos]
        · exact hY j hj
        · have := hY j hj
          have hlt : o + j < Y.size := by
            rcases Nat.lt_or_ge (o + j) Y.size with h | h
            · exact h
            · rw [Array.getElem?_eq_none h] at this; simp at this
          omega
    · -- a whole number
      unfold flatN at hf
      split at hf
      · rename_i k hu
        injection hf with hf
        subst hf
        have ha' : aggT P t = some false := by simp [aggT, hu]
        have hX0 := hX 0 (by omega)
        have hY0 := hY 0 (by omega)
        simp only [Nat.add_zero] at hX0 hY0
        refine ⟨(g 0).val, (h 0).val, fun W => by rw [run_part ha' hs]; simp [hX0], fun W => by rw [run_part ha' hs]; simp [hY0], ?_⟩
        obtain ⟨k', x, y, e1, e2⟩ := fits_int (hk 0 (by omega))
        rw [e1, e2]
        simp only [S.val]
        rw [run_equalIn_int W D t k' k x y hu]
        simp [allB, e1, e2, S.eqB]
        rfl
      · rename_i fs hu
        exact absurd (by simp [aggT, hu]) ha
      · rename_i m e hu
        exact absurd (by simp [aggT, hu]) ha
      · simp at hf

theorem flat_fields {P : Program} {d : Nat} (ih : FlatEq P d) (D : Nat) (hD : d ≤ D) (X Y : Array Value) (g h : Nat → S) (W : World) : ∀ (fs : List Field) (acc n : Nat), flatGo P (flatN P d) fs acc = some n →
    (∀ j, j < n → X[j]? = some (g j).val) → (∀ j, j < n → Y[j]? = some (h j).val) → (∀ j, j < n → (g j).fits (h j) = true) →
    acc ≤ n ∧ (Op.eqFields D X Y fs).run P W = .ok (allB (n - acc) fun j => (g (acc + j)).eqB (h (acc + j))) W
  | [], acc, n, hf, _, _, _ => by
    simp [flatGo] at hf
    subst hf
    simp [Op.eqFields, allB]
  | f :: fs, acc, n, hf, hX, hY, hk => by
    unfold flatGo at hf
    split at hf
    · simp at hf
    · rename_i hname
      split at hf
      · rename_i hoff
        split at hf
        · rename_i k k' h1 h2
          split at hf
          · rename_i hkk
            subst hkk
            obtain ⟨hle, hrest⟩ := flat_fields ih D hD X Y g h W fs (acc + k) n hf hX hY hk
            refine ⟨by omega, ?_⟩
            obtain ⟨a, b, ha, hb, he⟩ := flat_part ih h1 h2 X Y acc (fun j => g (acc + j)) (fun j => h (acc + j)) D W hD (fun j hj => hX _ (by omega)) (fun j hj => hY _ (by omega)) (fun j hj => hk _ (by omega))
            simp only [Op.eqFields]
            rw [if_pos hname, hoff]
            simp only [Sem.run_bind, ha, hb, he, Result.andThen_ok]
            rw [show n - acc = k + (n - (acc + k)) by omega, allB_add]
            cases hq : allB k fun j => (g (acc + j)).eqB (h (acc + j))
            · simp
            · simp only [Bool.not_true, Bool.false_eq_true, if_false, Bool.true_and]
              rw [hrest]
              simp only [Nat.add_assoc]
          · simp at hf
        · simp at hf
      · simp at hf

theorem run_eqArray {P : Program} {d D n k : Nat} {e : TypeId} (ih : FlatEq P d) (hD : d ≤ D) (hf : flatN P d e = some k) (hs : sizeT P e = some k) (X Y : Array Value) (g h : Nat → S) (W : World)
    (hX : ∀ j, j < n * k → X[j]? = some (g j).val) (hY : ∀ j, j < n * k → Y[j]? = some (h j).val) (hk : ∀ j, j < n * k → (g j).fits (h j) = true) :
    ∀ (m s : Nat), s + m = n → ∀ (f : Nat → (Option Bool × Unit) → Sem (ForInStep ((Option Bool × Unit)))),
      (∀ i r, f i r = (do
        if !(← Op.equalIn D e (← part e X (i * k)) (← part e Y (i * k))) then Pure.pure (ForInStep.done (some false, ()))
        else Pure.pure (ForInStep.yield (none, ())))) →
      ((forIn (List.range' s m) ((none, ()) : (Option Bool × Unit)) f).run P W = .ok (if (allB (m * k) fun j => (g (s * k + j)).eqB (h (s * k + j))) then (none, ()) else (some false, ())) W)
  | 0, s, _, f, _ => by simp [allB]
  | m + 1, s, hsm, f, hff => by
    have hb : s * k + k ≤ n * k := by rw [← Nat.succ_mul]; exact Nat.mul_le_mul_right _ (by omega)
    obtain ⟨a, b, ha, hb', he⟩ := flat_part ih hf hs X Y (s * k) (fun j => g (s * k + j)) (fun j => h (s * k + j)) D W hD (fun j hj => hX _ (by omega)) (fun j hj => hY _ (by omega)) (fun j hj => hk _ (by omega))
    have hrec := run_eqArray ih hD hf hs X Y g h W hX hY hk m (s + 1) (by omega) f hff
    simp only [List.range'_succ, List.forIn_cons, hff, Sem.run_bind, ha, hb', he, Result.andThen_ok]
    rw [show (m + 1) * k = k + m * k by rw [Nat.succ_mul, Nat.add_comm], allB_add]
    cases hq : allB k fun j => (g (s * k + j)).eqB (h (s * k + j))
    · simp
    · simp only [Bool.not_true, Bool.false_eq_true, if_false, Bool.true_and, Sem.run_pure, Result.andThen_ok]
      rw [hrec]
      simp only [Nat.succ_mul, Nat.add_assoc]

theorem flatEq (P : Program) : ∀ d, FlatEq P d
  | 0 => fun t n hf => by simp [flatN] at hf
  | d + 1 => by
    intro t n hf ha X Y g h D W hD hX hY hk
    have ih := flatEq P d
    obtain ⟨D, rfl⟩ : ∃ D', D = D' + 1 := ⟨D - 1, by omega⟩
    unfold flatN at hf
    split at hf
    · rename_i k hu
      simp [aggT, hu] at ha
    · rename_i fs hu
      split at hf
      · simp at hf
      · rename_i hst
        have hfo : P.fieldsOf t = fs := by simp [Program.fieldsOf, hu]
        rw [run_equalIn_struct W D t X Y (by rw [hfo]; exact hu) (by simpa using hst), hfo]
        have := (flat_fields ih D (by omega) X Y g h W fs.toList 0 n hf hX hY hk).2
        simpa using this
    · rename_i m e hu
      split at hf
      · rename_i k k' h1 h2
        split at hf
        · rename_i hkk
          subst hkk
          injection hf with hf
          subst hf
          simp only [Op.equalIn, Sem.run_bind, run_underlying hu W, Result.andThen_ok, run_sizeOf h2 W]
          rw [Std.Legacy.Range.forIn_eq_forIn_range']
          simp only [Std.Legacy.Range.size, Nat.sub_zero, Nat.add_sub_cancel, Nat.div_one]
          rw [run_eqArray (D := D) ih (by omega) h1 h2 X Y g h W hX hY hk m 0 (by omega) _ (fun i r => rfl)]
          simp only [Nat.zero_mul, Nat.zero_add, Result.andThen_ok]
          cases allB (m * k) fun j => (g j).eqB (h j) <;> simp
        · simp at hf
      · simp at hf
    · simp at hf

theorem pure_eqa {P : Program} {neg : Bool} {t u : TypeId} {n : Nat} {x y : Operand} {x' y' : O} (hn : flatN P 12 t = some n) (ha : aggT P t = some true) (hg : P.eqGuardType P.depth t = false) (hx : opd x = some x') (hy : opd y = some y') :
    PureOK P (.binOp (bif neg then .neq else .eql) t x y u) (.eqa neg n x' y') := by
  intro ι e a z o ho hE hv
  have rx := opd_R hx hE
  have ry := opd_R hy hE
  simp only [pureV] at hv
  split at hv
  · rename_i n1 g n2 h hp hq
    rw [hp] at rx
    rw [hq] at ry
    simp only [VR] at rx ry
    obtain ⟨X, rx, hXs, hX⟩ := rx
    obtain ⟨Y, ry, hYs, hY⟩ := ry
    split at hv
    · rename_i hnn
      obtain ⟨e1, e2⟩ := hnn
      subst e1; subst e2
      cases hall : allB n2 fun i => (g i).fits (h i)
      · simp [hall] at hv
      · simp only [hall, cond_true, Option.some.injEq] at hv
        subst hv
        refine ⟨_, rfl, fun W => ?_⟩
        have he : (Op.equal t (.agg X) (.agg Y)).run P W = .ok (allB n2 fun j => (g j).eqB (h j)) W := flatEq P 12 t n2 hn ha X Y g h 10000 W (by omega) hX hY (allB_iff.1 hall)
        cases neg <;> simp [execOp, ho, rx, ry, eqGuard, hg, binOp, he, S.val]
    · simp at hv
  · simp at hv

end Go.Am
