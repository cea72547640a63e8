/- Texts of this seat, joined. -/
import Derived.Defers
import Derived.Test.YtlaogmemhephnaaDoorAm0
import Derived.Test.YtlaogmemhephnaaDoorAm1
import Derived.Test.YtlaogmemhephnaaDoorAm2
import Derived.Test.YtlaogmemhephnaaDoorM0
import Derived.Test.YtlaogmemhephnaaDoorM1
/- A text parsed: the contract. -/
set_option linter.unusedVariables false
set_option linter.unusedSimpArgs false
namespace Go.Proofs.YtlaogmemhephnaaDoor
open Go Go.Am Go.RowKit

abbrev no0 : Inj := fun _ => none
theorem rel0 [Bas] {ι : Inj} {σ : Heap} {W : World} (hR : RelW ι σ W) : RelW no0 [] W :=
  ⟨fun _ _ h => by simp [no0] at h, fun _ _ _ h => by simp [no0] at h, fun _ _ _ _ h => by simp [no0] at h, fun _ _ h => by simp [no0] at h, hR.bsz, hR.bas⟩

/-- The results' cells, read. -/
abbrev eR : Env := [.undef, .undef, .ptr 0 0 133, .ptr 1 0 1, .ptr 2 0 1, .undef, .undef, .undef, .undef, .undef, .undef, .undef, .undef, .undef, .undef, .undef, .undef, .undef, .undef, .undef, .undef, .undef, .undef, .undef, .undef, .undef, .undef, .undef]

theorem rEnv {ι : Inj} {A : Array Value} {p q r : Value} (hs : A.size = 28) (g2 : A[2]? = some p) (g3 : A[3]? = some q) (g4 : A[4]? = some r) (h2 : VR ι (.ptr 0 0 133) p) (h3 : VR ι (.ptr 1 0 1) q) (h4 : VR ι (.ptr 2 0 1) r) : EnvR ι eR A := by
  obtain ⟨l⟩ := A
  refine VRL.of_at (by simpa using hs.symm) fun i x v hx hv => ?_
  simp at g2 g3 g4
  match i with
  | 0 => cases hx; trivial
  | 1 => cases hx; trivial
  | 2 => rw [g2] at hv; cases hx; cases hv; exact h2
  | 3 => rw [g3] at hv; cases hx; cases hv; exact h3
  | 4 => rw [g4] at hv; cases hx; cases hv; exact h4
  | i + 5 =>
    have hx : (List.replicate 23 V.undef)[i]? = some x := hx
    rw [List.getElem?_replicate] at hx
    split at hx
    · injection hx with hx; subst hx; trivial
    · cases hx

/-- What three temporaries hold. -/
theorem three {ι : Inj} {f : FE} {A : Array Value} (hE : EnvR ι (E 28 f) A) (h3 : At3 f) : A.size = 28 ∧ ∃ p q r, A[2]? = some p ∧ A[3]? = some q ∧ A[4]? = some r ∧ VR ι (.ptr 0 0 133) p ∧ VR ι (.ptr 1 0 1) q ∧ VR ι (.ptr 2 0 1) r := by
  obtain ⟨l⟩ := A
  have hl := VRL.length hE
  obtain ⟨g2, g3, g4⟩ := h3
  obtain ⟨p, hp, rp⟩ := VRL.at hE 2 (f 2) rfl
  obtain ⟨q, hq, rq⟩ := VRL.at hE 3 (f 3) rfl
  obtain ⟨r, hr, rr⟩ := VRL.at hE 4 (f 4) rfl
  rw [g2] at rp; rw [g3] at rq; rw [g4] at rr
  refine ⟨?_, p, q, r, by simpa using hp, by simpa using hq, by simpa using hr, rp, rq, rr⟩
  simpa [E] using hl.symm

theorem tup3_R {ι ι' : Inj} {g0 g1 g2 : Nat → S} {r : (Nat → Int) × Int × Int} {v : Value} (h : VR ι (.tup [.agg 133 (fun i => g0 (0 + i)), .s (g1 0), .s (g2 0)]) v) (h0 : ∀ i, i < 133 → g0 i = .int .i64 (r.1 i)) (h1 : g1 0 = .int .i64 r.2.1) (h2 : g2 0 = .int .i64 r.2.2) : VR ι' (tup3 r) v := by
  rw [h1, h2] at h
  unfold tup3
  simp only [VR, VRL] at h ⊢
  obtain ⟨cs, rfl, v0, r0, rfl, ⟨c0, rfl, hz, hc⟩, h⟩ := h
  refine ⟨_, rfl, _, _, rfl, ⟨c0, rfl, hz, fun i hi => ?_⟩, h⟩
  rw [hc i hi, Nat.zero_add, h0 i hi]

/-- The call's end. -/
def PEnd (s : ByteArray) (W : World) (e : Ending) (W' : World) : Prop := (∃ v, e = .returned v ∧ ∀ ι, VR ι (parseV s) v) ∧ Below W.heap.size W W'

/-- Behind the last deferred call. -/
theorem leaves_nil [Bas] {s : ByteArray} {W W1 : World} {ι : Inj} {f : FE} {σ : Heap} {n : Nat} {L : HA} {A : Array Value} (hE : EnvR ι (E 28 f) A) (h3 : At3 f) (hp : Hp σ n L) (hR : RelW ι σ W1) (ht : Told L (parseR s)) (hb : Below W.heap.size W W1) : Leaves Tryd.prog Tryd.f10 A (PEnd s W) [] .returning W1 := by
  obtain ⟨g0, g1, g2, m0, m1, m2, t0, t1, t2⟩ := ht
  obtain ⟨e2, e3, e4⟩ := h3
  have hx : resOf (E 28 f) σ [.cell 2 true 133, .cell 3 false 1, .cell 4 false 1] = some (.tup [.agg 133 (fun i => g0 (0 + i)), .s (g1 0), .s (g2 0)]) := by
    have hrs : RS 28 f L [.cell 2 true 133, .cell 3 false 1, .cell 4 false 1] [.agg 133 (fun i => g0 (0 + i)), .s (g1 0), .s (g2 0)] :=
      ⟨⟨_, _, _, _, _, _, e2, Nat.le_refl _, m0, rfl⟩, ⟨_, _, _, _, _, _, e3, Nat.le_refl _, m1, rfl⟩, ⟨_, _, _, _, _, _, e4, Nat.le_refl _, m2, rfl⟩, trivial⟩
    unfold resOf
    rw [resL_RS hp hrs]
  obtain ⟨v, hv, hrun⟩ := results_sound (a := ⟨A, []⟩) hE hR pcR hx
  exact ⟨v, hrun, ⟨v, rfl, fun ι' => tup3_R hv t0 t1 t2⟩, hb⟩

theorem post_no [Bas] {W W' : World} {ι' : Inj} {σ' : Heap} (h : Post no0 [] W ι' σ' W') : Below W.heap.size W W' :=
  ⟨h.same.os, h.same.tape, h.same.output, h.same.size, fun c hc => h.frame c hc (fun b p hb => by simp [no0] at hb)⟩

/-- Behind a panic. -/
theorem leaves_pan [Tabs] {s : ByteArray} {k : Nat} {W W1 : World} {ι : Inj} {f : FE} {σ : Heap} {n : Nat} {A : Array Value} {G : Nat → S} {u : Value} {dv : Array Value} (hE : EnvR ι (E 28 f) A) (h3 : At3 f) (hp : Hp σ n ((3, .sc .var 135 G) :: res3 (fun _ => 0) 0 0)) (hP : Post no0 [] W ι σ W1) (hu : VR ι (stk k) u) (hr : parseR s = (fun _ => 0, (k : Int), 13))
    (hd : ∃ p q r, dv = #[p, q, r] ∧ A[2]? = some p ∧ A[3]? = some q ∧ A[4]? = some r) : Leaves Tryd.prog Tryd.f10 A (PEnd s W) [{ target := .fn (.func 24) dv, args := #[] }] (.panicking (chain1 u)) W1 := by
  obtain ⟨hs, p, q, r, a2, a3, a4, r2, r3, r4⟩ := three hE h3
  obtain ⟨p', q', r', rfl, b2, b3, b4⟩ := hd
  rw [a2] at b2; rw [a3] at b3; rw [a4] at b4
  cases b2; cases b3; cases b4
  have hk : u = .iface 49 (.agg #[.int .i64 (k : Int)]) := by
    unfold stk at hu
    simp only [VR] at hu
    obtain ⟨w, rfl, cs, rfl, hz, hc⟩ := hu
    have := hc 0 (by omega)
    obtain ⟨l⟩ := cs
    match l, hz with
    | [x], _ =>
      simp at this
      rw [this]; rfl
  subst hk
  have hpk : pickB false (pos · [0, 1, 2]) σ [0, 1, 2] = some dH3 := by
    have m0 := (hp.2.mem (show (0, Blk.sc .var 133 (ia fun _ => 0)) ∈ _ from .tail _ (.tail _ (.tail _ (.head _))))).2
    have m1 := (hp.2.mem (show (1, Blk.sc .var 1 (onI 0)) ∈ _ from .tail _ (.tail _ (.head _)))).2
    have m2 := (hp.2.mem (show (2, Blk.sc .var 1 (onI 0)) ∈ _ from .tail _ (.head _))).2
    simp only [pickB, m0, m1, m2, Option.bind_some, Blk.ren, lower, cond_false]
  obtain ⟨sR, sD, _, _⟩ := subInj_rel hP.rel hpk rfl
  refine leaves_cons (f := 24) (args := #[p, q, r]) (by simp) (by simp [go_sem]) ?_
  refine (catch_pan (ι := subInj ι [0, 1, 2]) sR sD r2 r3 r4 (k : Int) []).mono ?_
  rintro e u' W2 ⟨rfl, rfl, ι2, hP2⟩
  have s2 := VR.ext hP2.ext _ _ (show VR (subInj ι [0, 1, 2]) (.ptr 0 0 133) p from r2)
  have s3 := VR.ext hP2.ext _ _ (show VR (subInj ι [0, 1, 2]) (.ptr 1 0 1) q from r3)
  have s4 := VR.ext hP2.ext _ _ (show VR (subInj ι [0, 1, 2]) (.ptr 2 0 1) r from r4)
  have hb1 := post_no hP
  have hb : Below W.heap.size W W2 := by
    refine ⟨hP2.same.os.trans hb1.os, hP2.same.tape.trans hb1.tape, hP2.same.output.trans hb1.output, Nat.le_trans hb1.size hP2.same.size, fun c hc => ?_⟩
    rw [← hb1.block c hc]
    refine hP2.frame c (Nat.lt_of_lt_of_le hc hb1.size) fun b x hbx _ he => ?_
    obtain ⟨b', hb'⟩ : ∃ b', ι b' = some x := by
      simp only [subInj] at hbx
      cases hq : ([0, 1, 2] : List Nat)[b]? with
      | none => rw [hq] at hbx; cases hbx
      | some j => rw [hq] at hbx; exact ⟨j, hbx⟩
    rcases (hP.fresh b' x hb' rfl).2 with h | ⟨_, _, h, _⟩
    · omega
    · simp [no0] at h
  have hx : resOf eR (dT k) [.cell 2 true 133, .cell 3 false 1, .cell 4 false 1] = some (.tup [.agg 133 (fun i => over zro 0 133 zro (0 + i)), .s (over (onI 0) 0 1 (onI k) 0), .s (over (onI 0) 0 1 (onI 13) 0)]) := rfl
  obtain ⟨v, hv, hrun⟩ := results_sound (a := ⟨A, []⟩) (rEnv hs a2 a3 a4 s2 s3 s4) hP2.rel pcR hx
  have hfin : Leaves Tryd.prog Tryd.f10 A (PEnd s W) [] .returning W2 := by
    refine ⟨v, hrun, ⟨v, rfl, fun ι' => ?_⟩, hb⟩
    refine tup3_R hv (fun i hi => ?_) ?_ ?_
    · rw [hr]
      show over zro 0 133 zro i = _
      rw [over_self]
    · rw [hr]; rfl
    · rw [hr]; rfl
  exact hfin

end Go.Proofs.YtlaogmemhephnaaDoor
/- A text parsed: the walk put together. -/
set_option linter.unusedVariables false
set_option linter.unusedSimpArgs false
namespace Go.Proofs.YtlaogmemhephnaaDoor
open Go Go.Am Go.RowKit

theorem getD_some {A : Array Value} {i : Nat} {x : Value} (h : A[i]? = some x) : A.getD i Go.undef = x := by
  rw [Array.getD_eq_getD_getElem?, h]; rfl

theorem p_body : Tryd.f10.body = some pB := rfl

theorem p_env (s : ByteArray) : EnvR no0 (E 28 (entryF [.s (.str s)])) (#[Value.string s] ++ Array.replicate 27 Go.undef) := by
  have := VRL.append (show VRL no0 [V.s (.str s)] [Value.string s] from ⟨_, _, rfl, rfl, rfl⟩) (VRL.undefs (ι := no0) 27)
  unfold EnvR
  rw [Array.toList_append, Array.toList_replicate]
  exact this

/-- The region that lays the closure by. -/
noncomputable abbrev pLay : Code := cL (cR (cR pB))

theorem lay_by {A : Array Value} (hsz : A.size = 28) {W : World} {p q r : Value} {Q : Exit → Act → World → Prop} (g2 : A[2]? = some p) (g3 : A[3]? = some q) (g4 : A[4]? = some r)
    (h : Q .normal ((Act.mk A [{ target := .fn (.func 24) #[p, q, r], args := #[] }]).put (some 10) (.func (.func 24) #[] #[p, q, r])) W) : pLay.wp Tryd.prog Q ⟨A, []⟩ W := by
  have hmf : ∀ (fn : Fn) (first cap : Array Value) (w : World), (Instr.makeFunc fn first cap).run Tryd.prog w = .ok (.func fn first cap) w := fun _ _ _ _ => rfl
  have e2 := getD_some g2
  have e3 := getD_some g3
  have e4 := getD_some g4
  show Code.wp _ (.region _ _ false) _ _ _
  apply wp_region
  simp [wpOps, go_sem, hmf, e2, e3, e4, hsz]
  refine .inl (.inl ?_)
  simpa only [Act.put] using h

theorem ptr_one {ι : Inj} {b o z : Nat} {u v : Value} (h : VR ι (.ptr b o z) u) (k : VR ι (.ptr b o z) v) : u = v := by
  simp only [VR] at h k
  obtain ⟨p, hp, _, rfl⟩ := h
  obtain ⟨q, hq, _, rfl⟩ := k
  rw [hp] at hq
  cases hq
  rfl

theorem parse_core [Tabs] {W : World} {s : ByteArray} {cA cB c4 c6 : Code} {id : Nat} {ops : Array Oper} (hA : compC Tryd.prog false cA = some (qL qB)) (hB : compC Tryd.prog false cB = some (qL (qR qB))) (h4 : compC Tryd.prog false c4 = some (qL (qR (qR (qR qB))))) (h5 : compL Tryd.prog ops.toList ops.toList = some (qOps (qL (qR (qR (qR (qR qB)))))))
    (h6 : compC Tryd.prog false c6 = some (qR (qR (qR (qR (qR qB)))))) (hRn : RelW no0 [] W) : (Code.seq cA (.seq cB (.seq pLay (.seq c4 (.seq (.region id ops false) c6))))).wp Tryd.prog (bodyPostD Tryd.prog Tryd.f10 (PEnd s W)) { tmps := #[Value.string s] ++ Array.replicate 27 Go.undef, defers := [] } W := by
  have hDn : Dom no0 [] := fun _ _ h => by simp [no0] at h
  refine wp_seq ?_
  refine wp_WP hA (walkA s) (σ := []) ⟨rfl, trivial⟩ (a := { tmps := #[Value.string s] ++ Array.replicate 27 Go.undef, defers := [] }) (p_env s) hRn hDn ?_
  intro x y f1 σ1 n1 L1 a1 W1 ι1 ho hy hp1 hE1 hP1 hd1
  cases x with
  | exit j => exact ho.elim
  | ret => exact ho.elim
  | panic v => exact ho.elim
  | normal =>
  obtain rfl : y = .normal := hy
  have hE1 := hE1 (fun _ h => by cases h)
  obtain ⟨k0, k3, rfl, rfl⟩ := ho
  have hD1 := hP1.dom hDn
  refine wp_seq ?_
  refine wp_WP hB (walkB s f1 k0 k3) hp1 hE1 hP1.rel hD1 ?_
  intro x y f2 σ2 n2 L2 a2 W2 ι2 ho hy hp2 hE2 hP2 hd2
  have hP2 := hP1.trans hDn hP2
  have hD2 := hP2.dom hDn
  have hd : a2.defers = [] := hd2.trans hd1
  cases x with
  | exit j => exact ho.elim
  | panic v => exact ho.elim
  | ret =>
    obtain rfl : y = .ret := hy
    have hE2 := hE2 (fun _ h => by cases h)
    obtain ⟨k3, ht⟩ := ho
    show Leaves _ _ _ _ a2.defers .returning W2
    rw [hd]
    exact leaves_nil hE2 k3 hp2 hP2.rel ht (post_no hP2)
  | normal =>
  obtain rfl : y = .normal := hy
  have hE2 := hE2 (fun _ h => by cases h)
  obtain ⟨hs, k0, k3, rfl, rfl⟩ := ho
  obtain ⟨hsz, p, q, r, g2, g3, g4, r2, r3, r4⟩ := three hE2 k3
  obtain ⟨A2, ds2⟩ := a2
  obtain rfl : ds2 = [] := hd
  refine wp_seq ?_
  refine lay_by hsz g2 g3 g4 ?_
  have hE3 : EnvR ι2 (E 28 (upd f2 10 .undef)) ((Act.mk A2 [{ target := .fn (.func 24) #[p, q, r], args := #[] }]).put (some 10) (.func (.func 24) #[] #[p, q, r])).tmps := by
    have := EnvR.put (a := Act.mk A2 [{ target := .fn (.func 24) #[p, q, r], args := #[] }]) hE2 (some 10) (x := .undef) (v := .func (.func 24) #[] #[p, q, r]) trivial
    rw [put_E] at this
    exact this
  have k3 : At3 (upd f2 10 .undef) := k3
  refine wp_seq ?_
  refine wp_WP h4 (walk4 s (upd f2 10 .undef) k0 k3) hp2 hE3 hP2.rel hD2 ?_
  intro x y f4 σ4 n4 L4 a4 W4 ι4 ho hy hp4 hE4 hP4 hd4
  cases x with
  | exit j => exact ho.elim
  | panic v => exact ho.elim
  | ret => exact ho.elim
  | normal =>
  obtain rfl : y = .normal := hy
  have hE4 := hE4 (fun _ h => by cases h)
  obtain ⟨k4, k5, rfl, rfl⟩ := ho
  have hP4x := hP4
  have hP4 := hP2.trans hDn hP4
  have hD4 := hP4.dom hDn
  obtain ⟨A4, ds4⟩ := a4
  obtain rfl : ds4 = [{ target := .fn (.func 24) #[p, q, r], args := #[] }] := hd4
  have hx24 := hP4x.ext
  obtain ⟨x, f5, σ5, n5, L5, hx, hp5, ho⟩ := walk5 s (by omega) f4 k5 k4 σ4 hp4
  refine wp_seq ?_
  refine wp_region_list (seqX_sound runOK h5 hE4 hP4.rel hD4 hx ?_)
  intro a5 W5 ι5 y hy hE5 hP5 hd5
  have hx45 := hP5.ext
  have hP5 := hP4.trans hDn hP5
  have hD5 := hP5.dom hDn
  obtain ⟨A5, ds5⟩ := a5
  obtain rfl : ds5 = [{ target := .fn (.func 24) #[p, q, r], args := #[] }] := hd5
  have r2 := (r2.ext hx24 _ _).ext hx45 _ _
  have r3 := (r3.ext hx24 _ _).ext hx45 _ _
  have r4 := (r4.ext hx24 _ _).ext hx45 _ _
  cases x with
  | exit j => exact ho.elim
  | ret => exact ho.elim
  | panic v =>
    obtain ⟨u, rfl, hu⟩ := hy
    obtain ⟨e, hr, rfl, k4, G, rfl⟩ := ho
    obtain ⟨_, p', q', r', a2, a3, a4, b2, b3, b4⟩ := three hE5 k4
    have hpr : parseR s = (fun _ => 0, (e : Int), 13) := by
      unfold parseR
      rw [if_neg (by omega), hr]
    show Leaves _ _ A5 _ _ (.panicking (chain1 u)) W5
    exact leaves_pan hE5 k4 hp5 hP5 hu hpr ⟨p, q, r, rfl, by rw [a2, ptr_one b2 r2], by rw [a3, ptr_one b3 r3], by rw [a4, ptr_one b4 r4]⟩
  | normal =>
  obtain rfl : y = .normal := hy
  obtain ⟨P, k, hr, k4, k5, rfl⟩ := ho
  refine wp_WP h6 (walk6 s hs P k n5 hr f5 k5 k4) hp5 hE5 hP5.rel hD5 ?_
  intro x y f6 σ6 n6 L6 a6 W6 ι6 ho hy hp6 hE6 hP6 hd6
  have hP6 := hP5.trans hDn hP6
  cases x with
  | exit j => exact ho.elim
  | panic v => exact ho.elim
  | normal => exact ho.elim
  | ret =>
    obtain rfl : y = .ret := hy
    have hE6 := hE6 (fun _ h => by cases h)
    obtain ⟨k6, ht⟩ := ho
    show Leaves _ _ a6.tmps _ a6.defers .returning W6
    rw [hd6]
    refine leaves_cons (f := 24) (args := #[p, q, r]) (by simp) (by simp [go_sem]) ?_
    refine (catch_idle p q r W6).mono ?_
    rintro e u' W7 ⟨rfl, rfl, rfl⟩
    exact leaves_nil hE6 k6 hp6 hP6.rel ht (post_no hP6)

theorem parse_calls [Tabs] {ι : Inj} {σ : Heap} {W : World} (hR : RelW ι σ W) (s : ByteArray) : Calls Tryd.prog 10 #[.string s] W (PEnd s W) :=
  calls_of_wp_defers Tryd.func10 p_body (parse_core pcA pcB pc4 pc5 pc6 (rel0 hR))

end Go.Proofs.YtlaogmemhephnaaDoor
/- The machine that is told of the parse. -/
set_option linter.unusedVariables false
set_option linter.unusedSimpArgs false
namespace Go.Proofs.YtlaogmemhephnaaDoor
open Go Go.Am

/-- The parse of a text. -/
def parsePrim : List V → Heap → Option (V × Heap)
  | [.s (.str s)], σ => some (parseV s, σ)
  | _, _ => none
def primF2 (f : FuncId) : Option (List V → Heap → Option (V × Heap)) := bif Nat.beq f 10 then some parsePrim else primF f
def AM2 : AP := { fns := AM.fns, prims := primF2 }

theorem parse_new : primF 10 = none ∧ lookF 10 fnsL = none := ⟨rfl, rfl⟩

/-- What the machine comes to, this one comes to. -/
theorem le2 : LeR (Run AM) (Run AM2) := Run_ext (fun _ _ h => h)
  (fun f pf h => by
    show (bif Nat.beq f _ then some parsePrim else primF f) = some pf
    cases hb : Nat.beq f 10 with
    | true =>
      have := Nat.eq_of_beq_eq_true hb
      subst this
      have h : primF 10 = some pf := h
      rw [parse_new.1] at h; cases h
    | false => exact h)
  (fun f a h ha => by
    show (bif Nat.beq f _ then some parsePrim else primF f) = none
    cases hb : Nat.beq f 10 with
    | true =>
      have := Nat.eq_of_beq_eq_true hb
      subst this
      have ha : lookF 10 fnsL = some a := ha
      rw [parse_new.2] at ha; cases ha
    | false => exact h)

theorem RF2 {f : FuncId} {av : List V} {v : V} (h : RF AM f av v) : RF AM2 f av v := by
  obtain ⟨σ, h⟩ := h
  exact ⟨σ, le2 _ _ _ _ h⟩

theorem primsOK2 [Tabs] : PrimsOK Tryd.prog AM2 := by
  intro f pf hpf args σ v σ' h
  have hb : primF2 f = some pf := hpf
  unfold primF2 at hb
  cases h0 : Nat.beq f 10 with
  | true =>
    rw [h0] at hb; injection hb with hb; subst hb
    obtain rfl := Nat.eq_of_beq_eq_true h0
    refine ⟨⟨_, Tryd.func10, by kernel_rfl, by decide⟩, fun ι W av hR _ hv => ?_⟩
    unfold parsePrim at h
    split at h
    · rename_i s
      injection h with h
      injection h with h1 h2
      subst h1; subst h2
      simp only [VRL, VR, S.val] at hv
      obtain ⟨_, _, rfl, rfl, rfl⟩ := hv
      refine (parse_calls hR s).mono ?_
      rintro e W' ⟨⟨v, rfl, hv⟩, hbl⟩
      exact ⟨ι, v, rfl, hv ι, post_below hR hbl⟩
    · cases h
  | false => rw [h0, cond_false] at hb; exact primsOK f pf hb args σ v σ' h

theorem runOK2 [Tabs] : RunOK Tryd.prog (Run AM2) := run_ok fnsOK primsOK2 (by kernel_rfl)

theorem parse_run (s : ByteArray) : RF AM2 10 [.s (.str s)] (parseV s) := ⟨[], by rw [Run_prim (pf := parsePrim) rfl]; rfl⟩

/-- A position shown: a text and an error. -/
def showR (P : Nat → Int) : ByteArray × Int := if rightM P = true then (showS P, 0) else (⟨#[]⟩, 2)
abbrev tup2 (r : ByteArray × Int) : V := .tup [.s (.str r.1), .s (.int .i64 r.2)]
theorem showV_is (P : Nat → Int) : showV P = tup2 (showR P) := by
  unfold showV showR
  split <;> rfl
theorem show_run (P : Nat → Int) : RF AM2 6 [.agg 133 (ia P)] (tup2 (showR P)) := by
  have := RF_of (Show_walk P)
  rw [showV_is] at this
  exact RF2 this
/-- The position at the begin. -/
def backK (i : Nat) : Int := bif Nat.beq i 0 || Nat.beq i 7 then 4 else bif Nat.beq i 1 || Nat.beq i 6 then 2 else bif Nat.beq i 2 || Nat.beq i 5 then 3 else bif Nat.beq i 3 then 5 else 6
def startF (i : Nat) : Int :=
  bif Nat.blt i 128 then
    (bif Nat.blt i 16 then (bif Nat.beq (i % 2) 0 then backK (i / 2) else 0)
    else bif Nat.blt i 32 then (bif Nat.beq (i % 2) 0 then 1 else 0)
    else bif Nat.blt i 96 then 0
    else bif Nat.blt i 112 then 1
    else (bif Nat.beq (i % 2) 0 then backK ((i - 112) / 2) else 1))
  else bif Nat.beq i 129 then 15 else bif Nat.beq i 130 then -1 else bif Nat.beq i 132 then 1 else 0
def emptyF (i : Nat) : Int := bif Nat.beq i 130 then -1 else bif Nat.beq i 132 then 1 else 0
theorem blt_no {i m : Nat} (h : m ≤ i) : Nat.blt i m = false := Bool.eq_false_iff.2 fun e => by have : i + 1 ≤ m := Nat.le_of_ble_eq_true e; omega
theorem beq_no {i m : Nat} (h : i ≠ m) : Nat.beq i m = false := Bool.eq_false_iff.2 fun e => h (Nat.eq_of_beq_eq_true e)
theorem startF_hi (i : Nat) (h : 133 ≤ i) : startF i = 0 := by
  unfold startF
  rw [blt_no (show 128 ≤ i by omega), cond_false, beq_no (show i ≠ 129 by omega), beq_no (show i ≠ 130 by omega), beq_no (show i ≠ 132 by omega)]
  rfl
theorem emptyF_hi (i : Nat) (h : 133 ≤ i) : emptyF i = 0 := by
  unfold emptyF
  rw [beq_no (by omega), beq_no (by omega)]
  rfl
theorem ovA_is {P Q R : Nat → Int} {m : Nat} (h : ∀ i, i < m → Q i = R i) (h2 : ∀ i, m ≤ i → P i = R i) : ovA P 0 m Q = R := by
  funext i
  by_cases hi : i < m
  · rw [ovA_at (by omega)]; exact h i hi
  · rw [ovA_out (by omega)]; exact h2 i (by omega)

/-- The text of the begin. -/
abbrev beginS : ByteArray := ⟨#[114, 110, 98, 113, 107, 98, 110, 114, 47, 112, 112, 112, 112, 112, 112, 112, 112, 47, 56, 47, 56, 47, 56, 47, 56, 47, 80, 80, 80, 80, 80, 80, 80, 80, 47, 82, 78, 66, 81, 75, 66, 78, 82, 32, 119, 32, 75, 81, 107, 113, 32, 45, 32, 48, 32, 49]⟩
def parse_begin : Bool := eqI 133 (parseR beginS).1 startF && decide ((parseR beginS).2.1 = 0) && decide ((parseR beginS).2.2 = 0)
theorem parse_begin_is : parse_begin = true := by decide +kernel
theorem show_begin : (showR startF).1.data.toList = beginS.data.toList ∧ (showR startF).2 = 0 := by decide +kernel

end Go.Proofs.YtlaogmemhephnaaDoor
/- The position at the begin, as the document makes it. -/
namespace Go.Proofs.YtlaogmemhephnaaDoor
open Go Go.Am
set_option linter.unusedSimpArgs false
set_option linter.unusedVariables false
set_option maxRecDepth 100000
theorem rEmpty_run  : WR AM 37 [] [] (fun v _ _ => v = .agg 133 (ia emptyF)) := by
 refine WR_fn (a := a37) rfl rfl (entryF _) (entry_E (Nat.le_of_ble_eq_true rfl)) (m := 0) rfl ?_
 refine WP_seq ?_
 refine WP_ops ?_
 refine WO_allocI ?_
 refine WO_nil ?_
 refine WP_seq ?_
 refine WP_ops ?_
 refine WO_buildI rfl (.one rfl (.one rfl .nil)) ?_
 refine WO_stA rfl rfl rfl rfl .here ?_
 refine WO_nil ?_
 refine WP_ret ?_
 refine ⟨_, RS_cell rfl rfl (.head _) (RS_nil), ?_⟩
 refine congrArg (fun P => V.agg 133 (ia P)) ?_
 refine ovA_is (by decide +kernel) fun i hi => (emptyF_hi i hi).symm
theorem rStart_run  : WR AM 19 [] [] (fun v _ _ => v = .agg 133 (ia startF)) := by
 refine WR_fn (a := a19) rfl rfl (entryF _) (entry_E (Nat.le_of_ble_eq_true rfl)) (m := 0) rfl ?_
 refine WP_seq ?_
 refine WP_ops ?_
 refine WO_allocI ?_
 refine WO_nil ?_
 refine WP_seq ?_
 refine WP_ops ?_
 refine WO_call0 rfl (RF_of rEmpty_run) rfl rfl rfl ?_
 refine WO_allocI ?_
 refine WO_stA rfl rfl rfl rfl .here ?_
 refine WO_nil ?_
 refine WP_seq ?_
 refine WP_ops ?_
 refine WO_mkslS rfl (.one rfl (.one rfl (.one rfl (.one rfl (.one rfl (.one rfl (.one rfl (.one rfl .nil)))))))) ?_
 refine WO_mv (v := .sl _ _ _ _ _) rfl ?_
 refine WO_nil ?_
 refine WP_seq ?_
 refine WP_seq ?_
 refine WP_ops ?_
 refine WO_mv rfl ?_
 refine WO_nil ?_
 refine WP_block ?_
 refine WP_unroll ?_
 refine WP_seq ?_
 refine WP_seq ?_
 refine WP_ops ?_
 refine WO_mv (v := .s (.int _ _)) rfl ?_
 refine WO_bin (r := .bool _) rfl rfl rfl ?_
 refine WO_nil ?_
 refine WP_cond rfl (fun h1 => ?_) (fun h1 => ?_)
 ·try simp only [NM] at h1
  refine WP_skip ?_
  refine WP_seq ?_
  refine WP_block ?_
  refine WP_seq ?_
  refine WP_ops ?_
  refine WO_mv (v := .s (.int _ _)) rfl ?_
  refine WO_mv (v := .sl _ _ _ _ _) rfl ?_
  refine WO_mv (v := .s (.int _ _)) rfl ?_
  refine WO_ixs rfl rfl (by omega) ?_
  refine WO_ldI (x := _) rfl rfl (.head _) (rfl) ?_
  refine WO_buildI rfl (.one rfl (.one rfl .nil)) ?_
  refine WO_fa (o' := 0) rfl rfl rfl ?_
  refine WO_ixa rfl rfl rfl (by omega) ?_
  refine WO_stA rfl rfl rfl rfl (.there .here) ?_
  refine WO_nil ?_
  refine WP_seq ?_
  refine WP_ops ?_
  refine WO_mv (v := .s (.int _ _)) rfl ?_
  refine WO_add rfl rfl (by omega) ?_
  refine WO_buildI rfl (.one rfl (.one rfl .nil)) ?_
  refine WO_fa (o' := 0) rfl rfl rfl ?_
  refine WO_ixa rfl rfl rfl (by omega) ?_
  refine WO_stA rfl rfl rfl rfl (.there .here) ?_
  refine WO_nil ?_
  refine WP_seq ?_
  refine WP_ops ?_
  refine WO_mv (v := .s (.int _ _)) rfl ?_
  refine WO_add rfl rfl (by omega) ?_
  refine WO_buildI rfl (.one rfl (.one rfl .nil)) ?_
  refine WO_fa (o' := 0) rfl rfl rfl ?_
  refine WO_ixa rfl rfl rfl (by omega) ?_
  refine WO_stA rfl rfl rfl rfl (.there .here) ?_
  refine WO_nil ?_
  refine WP_ops ?_
  refine WO_mv (v := .s (.int _ _)) rfl ?_
  refine WO_add rfl rfl (by omega) ?_
  refine WO_mv (v := .sl _ _ _ _ _) rfl ?_
  refine WO_mv (v := .s (.int _ _)) rfl ?_
  refine WO_ixs rfl rfl (by omega) ?_
  refine WO_ldI (x := _) rfl rfl (.head _) (rfl) ?_
  refine WO_buildI rfl (.one rfl (.one rfl .nil)) ?_
  refine WO_fa (o' := 0) rfl rfl rfl ?_
  refine WO_ixa rfl rfl rfl (by omega) ?_
  refine WO_stA rfl rfl rfl rfl (.there .here) ?_
  refine WO_nil ?_
  refine WP_ops ?_
  refine WO_mv (v := .s (.int _ _)) rfl ?_
  refine WO_add rfl rfl (by omega) ?_
  refine WO_mv (v := .s (.int _ _)) rfl ?_
  refine WO_nil ?_
  refine WP_unroll ?_
  refine WP_seq ?_
  refine WP_seq ?_
  refine WP_ops ?_
  refine WO_mv (v := .s (.int _ _)) rfl ?_
  refine WO_bin (r := .bool _) rfl rfl rfl ?_
  refine WO_nil ?_
  refine WP_cond rfl (fun h2 => ?_) (fun h2 => ?_)
  ·try simp only [NM] at h2
   refine WP_skip ?_
   refine WP_seq ?_
   refine WP_block ?_
   refine WP_seq ?_
   refine WP_ops ?_
   refine WO_mv (v := .s (.int _ _)) rfl ?_
   refine WO_mv (v := .sl _ _ _ _ _) rfl ?_
   refine WO_mv (v := .s (.int _ _)) rfl ?_
   refine WO_ixs rfl rfl (by omega) ?_
   refine WO_ldI (x := _) rfl rfl (.head _) (rfl) ?_
   refine WO_buildI rfl (.one rfl (.one rfl .nil)) ?_
   refine WO_fa (o' := 0) rfl rfl rfl ?_
   refine WO_ixa rfl rfl rfl (by omega) ?_
   refine WO_stA rfl rfl rfl rfl (.there .here) ?_
   refine WO_nil ?_
   refine WP_seq ?_
   refine WP_ops ?_
   refine WO_mv (v := .s (.int _ _)) rfl ?_
   refine WO_add rfl rfl (by omega) ?_
   refine WO_buildI rfl (.one rfl (.one rfl .nil)) ?_
   refine WO_fa (o' := 0) rfl rfl rfl ?_
   refine WO_ixa rfl rfl rfl (by omega) ?_
   refine WO_stA rfl rfl rfl rfl (.there .here) ?_
   refine WO_nil ?_
   refine WP_seq ?_
   refine WP_ops ?_
   refine WO_mv (v := .s (.int _ _)) rfl ?_
   refine WO_add rfl rfl (by omega) ?_
   refine WO_buildI rfl (.one rfl (.one rfl .nil)) ?_
   refine WO_fa (o' := 0) rfl rfl rfl ?_
   refine WO_ixa rfl rfl rfl (by omega) ?_
   refine WO_stA rfl rfl rfl rfl (.there .here) ?_
   refine WO_nil ?_
   refine WP_ops ?_
   refine WO_mv (v := .s (.int _ _)) rfl ?_
   refine WO_add rfl rfl (by omega) ?_
   refine WO_mv (v := .sl _ _ _ _ _) rfl ?_
   refine WO_mv (v := .s (.int _ _)) rfl ?_
   refine WO_ixs rfl rfl (by omega) ?_
   refine WO_ldI (x := _) rfl rfl (.head _) (rfl) ?_
   refine WO_buildI rfl (.one rfl (.one rfl .nil)) ?_
   refine WO_fa (o' := 0) rfl rfl rfl ?_
   refine WO_ixa rfl rfl rfl (by omega) ?_
   refine WO_stA rfl rfl rfl rfl (.there .here) ?_
   refine WO_nil ?_
   refine WP_ops ?_
   refine WO_mv (v := .s (.int _ _)) rfl ?_
   refine WO_add rfl rfl (by omega) ?_
   refine WO_mv (v := .s (.int _ _)) rfl ?_
   refine WO_nil ?_
   refine WP_unroll ?_
   refine WP_seq ?_
   refine WP_seq ?_
   refine WP_ops ?_
   refine WO_mv (v := .s (.int _ _)) rfl ?_
   refine WO_bin (r := .bool _) rfl rfl rfl ?_
   refine WO_nil ?_
   refine WP_cond rfl (fun h3 => ?_) (fun h3 => ?_)
   ·try simp only [NM] at h3
    refine WP_skip ?_
    refine WP_seq ?_
    refine WP_block ?_
    refine WP_seq ?_
    refine WP_ops ?_
    refine WO_mv (v := .s (.int _ _)) rfl ?_
    refine WO_mv (v := .sl _ _ _ _ _) rfl ?_
    refine WO_mv (v := .s (.int _ _)) rfl ?_
    refine WO_ixs rfl rfl (by omega) ?_
    refine WO_ldI (x := _) rfl rfl (.head _) (rfl) ?_
    refine WO_buildI rfl (.one rfl (.one rfl .nil)) ?_
    refine WO_fa (o' := 0) rfl rfl rfl ?_
    refine WO_ixa rfl rfl rfl (by omega) ?_
    refine WO_stA rfl rfl rfl rfl (.there .here) ?_
    refine WO_nil ?_
    refine WP_seq ?_
    refine WP_ops ?_
    refine WO_mv (v := .s (.int _ _)) rfl ?_
    refine WO_add rfl rfl (by omega) ?_
    refine WO_buildI rfl (.one rfl (.one rfl .nil)) ?_
    refine WO_fa (o' := 0) rfl rfl rfl ?_
    refine WO_ixa rfl rfl rfl (by omega) ?_
    refine WO_stA rfl rfl rfl rfl (.there .here) ?_
    refine WO_nil ?_
    refine WP_seq ?_
    refine WP_ops ?_
    refine WO_mv (v := .s (.int _ _)) rfl ?_
    refine WO_add rfl rfl (by omega) ?_
    refine WO_buildI rfl (.one rfl (.one rfl .nil)) ?_
    refine WO_fa (o' := 0) rfl rfl rfl ?_
    refine WO_ixa rfl rfl rfl (by omega) ?_
    refine WO_stA rfl rfl rfl rfl (.there .here) ?_
    refine WO_nil ?_
    refine WP_ops ?_
    refine WO_mv (v := .s (.int _ _)) rfl ?_
    refine WO_add rfl rfl (by omega) ?_
    refine WO_mv (v := .sl _ _ _ _ _) rfl ?_
    refine WO_mv (v := .s (.int _ _)) rfl ?_
    refine WO_ixs rfl rfl (by omega) ?_
    refine WO_ldI (x := _) rfl rfl (.head _) (rfl) ?_
    refine WO_buildI rfl (.one rfl (.one rfl .nil)) ?_
    refine WO_fa (o' := 0) rfl rfl rfl ?_
    refine WO_ixa rfl rfl rfl (by omega) ?_
    refine WO_stA rfl rfl rfl rfl (.there .here) ?_
    refine WO_nil ?_
    refine WP_ops ?_
    refine WO_mv (v := .s (.int _ _)) rfl ?_
    refine WO_add rfl rfl (by omega) ?_
    refine WO_mv (v := .s (.int _ _)) rfl ?_
    refine WO_nil ?_
    refine WP_unroll ?_
    refine WP_seq ?_
    refine WP_seq ?_
    refine WP_ops ?_
    refine WO_mv (v := .s (.int _ _)) rfl ?_
    refine WO_bin (r := .bool _) rfl rfl rfl ?_
    refine WO_nil ?_
    refine WP_cond rfl (fun h4 => ?_) (fun h4 => ?_)
    ·try simp only [NM] at h4
     refine WP_skip ?_
     refine WP_seq ?_
     refine WP_block ?_
     refine WP_seq ?_
     refine WP_ops ?_
     refine WO_mv (v := .s (.int _ _)) rfl ?_
     refine WO_mv (v := .sl _ _ _ _ _) rfl ?_
     refine WO_mv (v := .s (.int _ _)) rfl ?_
     refine WO_ixs rfl rfl (by omega) ?_
     refine WO_ldI (x := _) rfl rfl (.head _) (rfl) ?_
     refine WO_buildI rfl (.one rfl (.one rfl .nil)) ?_
     refine WO_fa (o' := 0) rfl rfl rfl ?_
     refine WO_ixa rfl rfl rfl (by omega) ?_
     refine WO_stA rfl rfl rfl rfl (.there .here) ?_
     refine WO_nil ?_
     refine WP_seq ?_
     refine WP_ops ?_
     refine WO_mv (v := .s (.int _ _)) rfl ?_
     refine WO_add rfl rfl (by omega) ?_
     refine WO_buildI rfl (.one rfl (.one rfl .nil)) ?_
     refine WO_fa (o' := 0) rfl rfl rfl ?_
     refine WO_ixa rfl rfl rfl (by omega) ?_
     refine WO_stA rfl rfl rfl rfl (.there .here) ?_
     refine WO_nil ?_
     refine WP_seq ?_
     refine WP_ops ?_
     refine WO_mv (v := .s (.int _ _)) rfl ?_
     refine WO_add rfl rfl (by omega) ?_
     refine WO_buildI rfl (.one rfl (.one rfl .nil)) ?_
     refine WO_fa (o' := 0) rfl rfl rfl ?_
     refine WO_ixa rfl rfl rfl (by omega) ?_
     refine WO_stA rfl rfl rfl rfl (.there .here) ?_
     refine WO_nil ?_
     refine WP_ops ?_
     refine WO_mv (v := .s (.int _ _)) rfl ?_
     refine WO_add rfl rfl (by omega) ?_
     refine WO_mv (v := .sl _ _ _ _ _) rfl ?_
     refine WO_mv (v := .s (.int _ _)) rfl ?_
     refine WO_ixs rfl rfl (by omega) ?_
     refine WO_ldI (x := _) rfl rfl (.head _) (rfl) ?_
     refine WO_buildI rfl (.one rfl (.one rfl .nil)) ?_
     refine WO_fa (o' := 0) rfl rfl rfl ?_
     refine WO_ixa rfl rfl rfl (by omega) ?_
     refine WO_stA rfl rfl rfl rfl (.there .here) ?_
     refine WO_nil ?_
     refine WP_ops ?_
     refine WO_mv (v := .s (.int _ _)) rfl ?_
     refine WO_add rfl rfl (by omega) ?_
     refine WO_mv (v := .s (.int _ _)) rfl ?_
     refine WO_nil ?_
     refine WP_unroll ?_
     refine WP_seq ?_
     refine WP_seq ?_
     refine WP_ops ?_
     refine WO_mv (v := .s (.int _ _)) rfl ?_
     refine WO_bin (r := .bool _) rfl rfl rfl ?_
     refine WO_nil ?_
     refine WP_cond rfl (fun h5 => ?_) (fun h5 => ?_)
     ·try simp only [NM] at h5
      refine WP_skip ?_
      refine WP_seq ?_
      refine WP_block ?_
      refine WP_seq ?_
      refine WP_ops ?_
      refine WO_mv (v := .s (.int _ _)) rfl ?_
      refine WO_mv (v := .sl _ _ _ _ _) rfl ?_
      refine WO_mv (v := .s (.int _ _)) rfl ?_
      refine WO_ixs rfl rfl (by omega) ?_
      refine WO_ldI (x := _) rfl rfl (.head _) (rfl) ?_
      refine WO_buildI rfl (.one rfl (.one rfl .nil)) ?_
      refine WO_fa (o' := 0) rfl rfl rfl ?_
      refine WO_ixa rfl rfl rfl (by omega) ?_
      refine WO_stA rfl rfl rfl rfl (.there .here) ?_
      refine WO_nil ?_
      refine WP_seq ?_
      refine WP_ops ?_
      refine WO_mv (v := .s (.int _ _)) rfl ?_
      refine WO_add rfl rfl (by omega) ?_
      refine WO_buildI rfl (.one rfl (.one rfl .nil)) ?_
      refine WO_fa (o' := 0) rfl rfl rfl ?_
      refine WO_ixa rfl rfl rfl (by omega) ?_
      refine WO_stA rfl rfl rfl rfl (.there .here) ?_
      refine WO_nil ?_
      refine WP_seq ?_
      refine WP_ops ?_
      refine WO_mv (v := .s (.int _ _)) rfl ?_
      refine WO_add rfl rfl (by omega) ?_
      refine WO_buildI rfl (.one rfl (.one rfl .nil)) ?_
      refine WO_fa (o' := 0) rfl rfl rfl ?_
      refine WO_ixa rfl rfl rfl (by omega) ?_
      refine WO_stA rfl rfl rfl rfl (.there .here) ?_
      refine WO_nil ?_
      refine WP_ops ?_
      refine WO_mv (v := .s (.int _ _)) rfl ?_
      refine WO_add rfl rfl (by omega) ?_
      refine WO_mv (v := .sl _ _ _ _ _) rfl ?_
      refine WO_mv (v := .s (.int _ _)) rfl ?_
      refine WO_ixs rfl rfl (by omega) ?_
      refine WO_ldI (x := _) rfl rfl (.head _) (rfl) ?_
      refine WO_buildI rfl (.one rfl (.one rfl .nil)) ?_
      refine WO_fa (o' := 0) rfl rfl rfl ?_
      refine WO_ixa rfl rfl rfl (by omega) ?_
      refine WO_stA rfl rfl rfl rfl (.there .here) ?_
      refine WO_nil ?_
      refine WP_ops ?_
      refine WO_mv (v := .s (.int _ _)) rfl ?_
      refine WO_add rfl rfl (by omega) ?_
      refine WO_mv (v := .s (.int _ _)) rfl ?_
      refine WO_nil ?_
      refine WP_unroll ?_
      refine WP_seq ?_
      refine WP_seq ?_
      refine WP_ops ?_
      refine WO_mv (v := .s (.int _ _)) rfl ?_
      refine WO_bin (r := .bool _) rfl rfl rfl ?_
      refine WO_nil ?_
      refine WP_cond rfl (fun h6 => ?_) (fun h6 => ?_)
      ·try simp only [NM] at h6
       refine WP_skip ?_
       refine WP_seq ?_
       refine WP_block ?_
       refine WP_seq ?_
       refine WP_ops ?_
       refine WO_mv (v := .s (.int _ _)) rfl ?_
       refine WO_mv (v := .sl _ _ _ _ _) rfl ?_
       refine WO_mv (v := .s (.int _ _)) rfl ?_
       refine WO_ixs rfl rfl (by omega) ?_
       refine WO_ldI (x := _) rfl rfl (.head _) (rfl) ?_
       refine WO_buildI rfl (.one rfl (.one rfl .nil)) ?_
       refine WO_fa (o' := 0) rfl rfl rfl ?_
       refine WO_ixa rfl rfl rfl (by omega) ?_
       refine WO_stA rfl rfl rfl rfl (.there .here) ?_
       refine WO_nil ?_
       refine WP_seq ?_
       refine WP_ops ?_
       refine WO_mv (v := .s (.int _ _)) rfl ?_
       refine WO_add rfl rfl (by omega) ?_
       refine WO_buildI rfl (.one rfl (.one rfl .nil)) ?_
       refine WO_fa (o' := 0) rfl rfl rfl ?_
       refine WO_ixa rfl rfl rfl (by omega) ?_
       refine WO_stA rfl rfl rfl rfl (.there .here) ?_
       refine WO_nil ?_
       refine WP_seq ?_
       refine WP_ops ?_
       refine WO_mv (v := .s (.int _ _)) rfl ?_
       refine WO_add rfl rfl (by omega) ?_
       refine WO_buildI rfl (.one rfl (.one rfl .nil)) ?_
       refine WO_fa (o' := 0) rfl rfl rfl ?_
       refine WO_ixa rfl rfl rfl (by omega) ?_
       refine WO_stA rfl rfl rfl rfl (.there .here) ?_
       refine WO_nil ?_
       refine WP_ops ?_
       refine WO_mv (v := .s (.int _ _)) rfl ?_
       refine WO_add rfl rfl (by omega) ?_
       refine WO_mv (v := .sl _ _ _ _ _) rfl ?_
       refine WO_mv (v := .s (.int _ _)) rfl ?_
       refine WO_ixs rfl rfl (by omega) ?_
       refine WO_ldI (x := _) rfl rfl (.head _) (rfl) ?_
       refine WO_buildI rfl (.one rfl (.one rfl .nil)) ?_
       refine WO_fa (o' := 0) rfl rfl rfl ?_
       refine WO_ixa rfl rfl rfl (by omega) ?_
       refine WO_stA rfl rfl rfl rfl (.there .here) ?_
       refine WO_nil ?_
       refine WP_ops ?_
       refine WO_mv (v := .s (.int _ _)) rfl ?_
       refine WO_add rfl rfl (by omega) ?_
       refine WO_mv (v := .s (.int _ _)) rfl ?_
       refine WO_nil ?_
       refine WP_unroll ?_
       refine WP_seq ?_
       refine WP_seq ?_
       refine WP_ops ?_
       refine WO_mv (v := .s (.int _ _)) rfl ?_
       refine WO_bin (r := .bool _) rfl rfl rfl ?_
       refine WO_nil ?_
       refine WP_cond rfl (fun h7 => ?_) (fun h7 => ?_)
       ·try simp only [NM] at h7
        refine WP_skip ?_
        refine WP_seq ?_
        refine WP_block ?_
        refine WP_seq ?_
        refine WP_ops ?_
        refine WO_mv (v := .s (.int _ _)) rfl ?_
        refine WO_mv (v := .sl _ _ _ _ _) rfl ?_
        refine WO_mv (v := .s (.int _ _)) rfl ?_
        refine WO_ixs rfl rfl (by omega) ?_
        refine WO_ldI (x := _) rfl rfl (.head _) (rfl) ?_
        refine WO_buildI rfl (.one rfl (.one rfl .nil)) ?_
        refine WO_fa (o' := 0) rfl rfl rfl ?_
        refine WO_ixa rfl rfl rfl (by omega) ?_
        refine WO_stA rfl rfl rfl rfl (.there .here) ?_
        refine WO_nil ?_
        refine WP_seq ?_
        refine WP_ops ?_
        refine WO_mv (v := .s (.int _ _)) rfl ?_
        refine WO_add rfl rfl (by omega) ?_
        refine WO_buildI rfl (.one rfl (.one rfl .nil)) ?_
        refine WO_fa (o' := 0) rfl rfl rfl ?_
        refine WO_ixa rfl rfl rfl (by omega) ?_
        refine WO_stA rfl rfl rfl rfl (.there .here) ?_
        refine WO_nil ?_
        refine WP_seq ?_
        refine WP_ops ?_
        refine WO_mv (v := .s (.int _ _)) rfl ?_
        refine WO_add rfl rfl (by omega) ?_
        refine WO_buildI rfl (.one rfl (.one rfl .nil)) ?_
        refine WO_fa (o' := 0) rfl rfl rfl ?_
        refine WO_ixa rfl rfl rfl (by omega) ?_
        refine WO_stA rfl rfl rfl rfl (.there .here) ?_
        refine WO_nil ?_
        refine WP_ops ?_
        refine WO_mv (v := .s (.int _ _)) rfl ?_
        refine WO_add rfl rfl (by omega) ?_
        refine WO_mv (v := .sl _ _ _ _ _) rfl ?_
        refine WO_mv (v := .s (.int _ _)) rfl ?_
        refine WO_ixs rfl rfl (by omega) ?_
        refine WO_ldI (x := _) rfl rfl (.head _) (rfl) ?_
        refine WO_buildI rfl (.one rfl (.one rfl .nil)) ?_
        refine WO_fa (o' := 0) rfl rfl rfl ?_
        refine WO_ixa rfl rfl rfl (by omega) ?_
        refine WO_stA rfl rfl rfl rfl (.there .here) ?_
        refine WO_nil ?_
        refine WP_ops ?_
        refine WO_mv (v := .s (.int _ _)) rfl ?_
        refine WO_add rfl rfl (by omega) ?_
        refine WO_mv (v := .s (.int _ _)) rfl ?_
        refine WO_nil ?_
        refine WP_unroll ?_
        refine WP_seq ?_
        refine WP_seq ?_
        refine WP_ops ?_
        refine WO_mv (v := .s (.int _ _)) rfl ?_
        refine WO_bin (r := .bool _) rfl rfl rfl ?_
        refine WO_nil ?_
        refine WP_cond rfl (fun h8 => ?_) (fun h8 => ?_)
        ·try simp only [NM] at h8
         refine WP_skip ?_
         refine WP_seq ?_
         refine WP_block ?_
         refine WP_seq ?_
         refine WP_ops ?_
         refine WO_mv (v := .s (.int _ _)) rfl ?_
         refine WO_mv (v := .sl _ _ _ _ _) rfl ?_
         refine WO_mv (v := .s (.int _ _)) rfl ?_
         refine WO_ixs rfl rfl (by omega) ?_
         refine WO_ldI (x := _) rfl rfl (.head _) (rfl) ?_
         refine WO_buildI rfl (.one rfl (.one rfl .nil)) ?_
         refine WO_fa (o' := 0) rfl rfl rfl ?_
         refine WO_ixa rfl rfl rfl (by omega) ?_
         refine WO_stA rfl rfl rfl rfl (.there .here) ?_
         refine WO_nil ?_
         refine WP_seq ?_
         refine WP_ops ?_
         refine WO_mv (v := .s (.int _ _)) rfl ?_
         refine WO_add rfl rfl (by omega) ?_
         refine WO_buildI rfl (.one rfl (.one rfl .nil)) ?_
         refine WO_fa (o' := 0) rfl rfl rfl ?_
         refine WO_ixa rfl rfl rfl (by omega) ?_
         refine WO_stA rfl rfl rfl rfl (.there .here) ?_
         refine WO_nil ?_
         refine WP_seq ?_
         refine WP_ops ?_
         refine WO_mv (v := .s (.int _ _)) rfl ?_
         refine WO_add rfl rfl (by omega) ?_
         refine WO_buildI rfl (.one rfl (.one rfl .nil)) ?_
         refine WO_fa (o' := 0) rfl rfl rfl ?_
         refine WO_ixa rfl rfl rfl (by omega) ?_
         refine WO_stA rfl rfl rfl rfl (.there .here) ?_
         refine WO_nil ?_
         refine WP_ops ?_
         refine WO_mv (v := .s (.int _ _)) rfl ?_
         refine WO_add rfl rfl (by omega) ?_
         refine WO_mv (v := .sl _ _ _ _ _) rfl ?_
         refine WO_mv (v := .s (.int _ _)) rfl ?_
         refine WO_ixs rfl rfl (by omega) ?_
         refine WO_ldI (x := _) rfl rfl (.head _) (rfl) ?_
         refine WO_buildI rfl (.one rfl (.one rfl .nil)) ?_
         refine WO_fa (o' := 0) rfl rfl rfl ?_
         refine WO_ixa rfl rfl rfl (by omega) ?_
         refine WO_stA rfl rfl rfl rfl (.there .here) ?_
         refine WO_nil ?_
         refine WP_ops ?_
         refine WO_mv (v := .s (.int _ _)) rfl ?_
         refine WO_add rfl rfl (by omega) ?_
         refine WO_mv (v := .s (.int _ _)) rfl ?_
         refine WO_nil ?_
         refine WP_unroll ?_
         refine WP_seq ?_
         refine WP_seq ?_
         refine WP_ops ?_
         refine WO_mv (v := .s (.int _ _)) rfl ?_
         refine WO_bin (r := .bool _) rfl rfl rfl ?_
         refine WO_nil ?_
         refine WP_cond rfl (fun h9 => ?_) (fun h9 => ?_)
         ·try simp only [NM] at h9
          exfalso; first | omega | (simp at h9)
         ·try simp only [NM] at h9
          refine WP_exit ?_
          refine xhere ?_
          refine WP_seq ?_
          refine WP_ops ?_
          refine WO_fa (o' := 129) rfl rfl rfl ?_
          refine WO_stI rfl rfl rfl rfl (.there .here) ?_
          refine WO_nil ?_
          refine WP_seq ?_
          refine WP_ops ?_
          first | refine WO_ldA0 rfl rfl (.tail _ (.head _)) ?_ | refine WO_ldAI rfl rfl (.tail _ (.head _)) ?_
          refine WO_stA rfl rfl rfl rfl (.there (.there .here)) ?_
          refine WO_nil ?_
          refine WP_ret ?_
          refine ⟨_, RS_cell rfl rfl (.tail _ (.tail _ (.head _))) (RS_nil), ?_⟩
          refine congrArg (fun P => V.agg 133 (ia P)) ?_
          refine ovA_is (by decide +kernel) fun i hi => (startF_hi i hi).symm
        ·try simp only [NM] at h8
         exfalso; first | omega | (simp at h8)
       ·try simp only [NM] at h7
        exfalso; first | omega | (simp at h7)
      ·try simp only [NM] at h6
       exfalso; first | omega | (simp at h6)
     ·try simp only [NM] at h5
      exfalso; first | omega | (simp at h5)
    ·try simp only [NM] at h4
     exfalso; first | omega | (simp at h4)
   ·try simp only [NM] at h3
    exfalso; first | omega | (simp at h3)
  ·try simp only [NM] at h2
   exfalso; first | omega | (simp at h2)
 ·try simp only [NM] at h1
  exfalso; first | omega | (simp at h1)
theorem start_run : RF AM2 19 [] (.agg 133 (ia startF)) := RF2 (RF_of rStart_run)
end Go.Proofs.YtlaogmemhephnaaDoor
/- The chapter's example; any positions shown: the walks. -/
set_option linter.unusedVariables false
set_option linter.unusedSimpArgs false
namespace Go.Proofs.YtlaogmemhephnaaDoor
open Go Go.Am

theorem begin_run : RF AM2 20 [] (.s (.str beginS)) := by
  refine RF2 (RF_of ?_)
  refine WR_fn (a := a20) rfl rfl (entryF _) (entry_E (Nat.le_of_ble_eq_true rfl)) (m := 0) rfl ?_
  refine WP_seq (WP_ops (WO_mv rfl (WO_nil ?_)))
  refine WP_seq (WP_ops (WO_mv rfl (WO_nil ?_)))
  exact WP_ret ⟨_, RS_tmp rfl RS_nil, rfl⟩

theorem showR_begin : showR startF = (beginS, 0) := by
  have h := show_begin
  have e : (showR startF).1 = beginS := str_inj (by rw [toList_is, toList_is]; exact h.1)
  exact Prod.ext e h.2

theorem parse_begin_all : eqI 133 (parseR beginS).1 startF = true ∧ (parseR beginS).2 = (0, 0) := by
  have h := parse_begin_is
  unfold parse_begin at h
  simp only [Bool.and_eq_true, decide_eq_true_eq] at h
  exact ⟨h.1.1, Prod.ext h.1.2 h.2⟩

set_option maxRecDepth 100000 in
theorem awake_run : RF AM2 8 [] (.s (.bool true)) := by
  refine RF_of ?_
  refine WR_fn (a := a8) rfl rfl (entryF _) (entry_E (Nat.le_of_ble_eq_true rfl)) (m := 0) rfl ?_
  refine WP_seq (WP_ops (WO_mv rfl (WO_nil ?_)))
  refine WP_seq (WP_ops ?_)
  refine WO_call0 rfl start_run rfl rfl rfl ?_
  refine WO_call0 rfl (show_run startF) rfl rfl rfl ?_
  rw [showR_begin]
  refine WO_mv (v := .tup _) rfl (WO_ext rfl rfl (WO_ext rfl rfl (WO_mv rfl (WO_mv rfl (WO_nil ?_)))))
  refine WP_seq (WP_ops ?_)
  refine WO_mv rfl (WO_call0 rfl (parse_run beginS) rfl rfl rfl ?_)
  obtain ⟨h1, h2⟩ := parse_begin_all
  have hv : parseV beginS = .tup [.agg 133 (ia (parseR beginS).1), .s (.int .i64 0), .s (.int .i64 0)] := by
    show tup3 (parseR beginS) = _
    unfold tup3
    rw [h2]
  rw [hv]
  generalize (parseR beginS).1 = P at h1
  refine WO_mv (v := .tup _) rfl (WO_ext rfl rfl (WO_ext rfl rfl (WO_ext rfl rfl ?_)))
  refine WO_allocI (WO_stA rfl rfl rfl rfl .here ?_)
  refine WO_mv rfl (WO_mv rfl (WO_nil ?_))
  refine WP_seq (WP_par ?_)
  refine WO_mv rfl (WO_bin (r := .bool true) rfl rfl rfl (WO_mv rfl ?_))
  refine WO_gt rfl (WO_mv rfl ?_)
  refine WO_gt rfl (WO_call0 rfl begin_run rfl rfl rfl ?_)
  refine WO_gt rfl (WO_bin (r := .bool true) rfl rfl (by show some (S.bool (_ == _)) = _; rw [beq_self_eq_true]) ?_)
  refine WO_pick rfl rfl (WO_mv rfl ?_)
  refine WO_gt rfl (WO_mv rfl ?_)
  refine WO_gt rfl (WO_bin (r := .bool true) rfl rfl rfl ?_)
  refine WO_pick rfl rfl (WO_mv rfl ?_)
  refine WO_gt rfl (WO_ldA0 rfl rfl (.head _) ?_)
  refine WO_gt rfl (WO_callq0 rfl start_run rfl rfl rfl ?_)
  refine WO_gt rfl (WO_eqaC rfl rfl (b := true) ?_ ?_)
  · show eqI 133 (ovA (fun _ => 0) 0 133 P) startF = true
    rw [eqI_iff] at h1 ⊢
    intro i hi
    rw [ovA_at (by omega)]
    exact h1 i hi
  refine WO_pick rfl rfl (WO_mv rfl (WO_nil ?_))
  exact WP_ret ⟨_, RS_tmp rfl RS_nil, rfl⟩

end Go.Proofs.YtlaogmemhephnaaDoor
/- What the laws of texts ask: plain facts. -/
set_option linter.unusedVariables false
set_option linter.unusedSimpArgs false
namespace Go.Proofs.YtlaogmemhephnaaDoor
open Go Go.Am

/-! ### Lengths -/

/-! ### FenBack -/

theorem rks_err {s : ByteArray} : ∀ j k P e, j ≤ 8 → k ≤ s.size → rksR s j k P = .error e → e ≤ s.size
  | 0, k, P, e, _, _, h => by simp [rksR] at h
  | j + 1, k, P, e, hj, hk, h => by
    rw [rksR] at h
    split at h
    · rename_i e1 h1
      cases h
      exact row_err _ _ _ _ _ _ hk h1
    · rename_i P1 k1 h1
      have hk1 := (row_keep (show j < 8 by omega) _ _ _ _ _ _ _ hk h1).1
      split at h
      · split at h
        · rename_i ht
          exact rks_err j (k1 + 1) P1 e (by omega) (take_lt ht) h
        · cases h; exact hk1
      · cases h

theorem inn_err {s : ByteArray} {i k e : Nat} {P : Nat → Int} (hk : k ≤ s.size) (h : innR s i P k = .error e) : e ≤ s.size := by
  have num : ∀ c, numP s c P k = .error e → e ≤ s.size := by
    intro c h
    unfold numP numberR at h
    split at h
    · cases h
    · cases h; exact hk
  match i with
  | 0 =>
    have h : sideR s P k = _ := h
    unfold sideR at h
    split at h
    · cases h
    · cases h; exact hk
  | 1 =>
    have h : castP s P k = _ := h
    unfold castP castleR at h
    split at h
    · cases h
    · split at h
      · cases h
      · cases h; exact hk
  | 2 =>
    have h : overP s P k = _ := h
    unfold overP overR at h
    split at h
    · cases h
    · split at h
      · rename_i ht
        split at h
        · cases h
        · cases h; exact take_lt ht
      · cases h; exact hk
  | 3 => exact num 131 h
  | i + 4 => exact num 132 h

theorem parts_err {s : ByteArray} : ∀ j i k P e, k ≤ s.size → partsR s j i k P = .error e → e ≤ s.size
  | 0, i, k, P, e, _, h => by simp [partsR] at h
  | j + 1, i, k, P, e, hk, h => by
    rw [partsR] at h
    split at h
    · rename_i e1 h1
      cases h
      unfold partR spR at h1
      split at h1
      · rename_i ht
        exact inn_err (take_lt ht) h1
      · cases h1; exact hk
    · rename_i P1 k1 h1
      unfold partR spR at h1
      split at h1
      · exact parts_err j (i + 1) k1 P1 e (inn_keep2 h1).1 h
      · cases h1

theorem allR_err {s : ByteArray} {e : Nat} (h : allR s = .error e) : e ≤ s.size := by
  unfold allR at h
  split at h
  · rename_i e1 h1
    cases h
    exact rks_err _ _ _ _ (Nat.le_refl 8) (Nat.zero_le _) h1
  · rename_i P k h1
    have hk := (rks_keep _ _ _ _ _ (Nat.le_refl 8) (Nat.zero_le _) h1).1
    split at h
    · rename_i e2 h2
      cases h
      exact parts_err _ _ _ _ _ hk h2
    · split at h
      · rename_i hlt
        cases h; omega
      · cases h

/-- How a text's parse ends. -/
theorem parse_ends (s : ByteArray) : (∃ P, parseR s = (P, 0, 0) ∧ allR s = .ok P ∧ rightM P = true) ∨
    (∃ (k : Nat) (e : Int), parseR s = (fun _ => 0, (k : Int), e) ∧ k ≤ s.size ∧ ((e = 13 ∧ s.size ≤ 128 ∧ allR s = .error k) ∨ (e = 2 ∧ k = 0 ∧ s.size ≤ 128) ∨ (e = 3 ∧ k = 0 ∧ 128 < s.size))) := by
  unfold parseR
  split
  · rename_i h
    exact .inr ⟨0, 3, rfl, Nat.zero_le _, .inr (.inr ⟨rfl, rfl, h⟩)⟩
  · rename_i h
    cases hr : allR s with
    | error e => exact .inr ⟨e, 13, rfl, allR_err hr, .inl ⟨rfl, by omega, rfl⟩⟩
    | ok P =>
      simp only
      split
      · rename_i hP
        exact .inl ⟨P, rfl, rfl, hP⟩
      · exact .inr ⟨0, 2, rfl, Nat.zero_le _, .inr (.inl ⟨rfl, rfl, by omega⟩)⟩

end Go.Proofs.YtlaogmemhephnaaDoor
/- Where a text can not go on: what stands behind does not matter. -/
set_option linter.unusedVariables false
set_option linter.unusedSimpArgs false
namespace Go.Proofs.YtlaogmemhephnaaDoor
open Go Go.Am

/-- Where a reading ends. -/
def pos {α : Type} : Except Nat (α × Nat) → Nat
  | .error e => e
  | .ok x => x.2

/-- A text that goes on as another one does, up to a place; and there it is none of what the other is none of. -/
structure Ag (s t : ByteArray) (m : Nat) : Prop where
  lo : ∀ k, k < m → ∀ J, takeC t k J = takeC s k J
  ch : ∀ k, k < m → chr t k = chr s k
  hi : ∀ J, takeC s m J = false → takeC t m J = false

theorem Ag.no {s t : ByteArray} {m k : Nat} (h : Ag s t m) {J : ByteArray} (hk : k ≤ m) (ht : takeC s k J = false) : takeC t k J = false := by
  by_cases e : k = m
  · subst e; exact h.hi J ht
  · rw [h.lo k (by omega), ht]

theorem row_mono {s : ByteArray} {r : Nat} : ∀ j f free k P, k ≤ pos (rowR s r j f free k P)
  | 0, f, free, k, P => Nat.le_refl k
  | j + 1, f, free, k, P => by
    rw [rowR]
    split
    · split
      · split
        · have := row_mono (s := s) (r := r) j (f + 1) true (k + 1) (ovA P (2 * (8 * r + f)) 2 (pX (((‹Nat› : Nat) / 2 + 1 : Nat) : Int) (((‹Nat› : Nat) % 2 : Nat) : Int)))
          omega
        · have := row_mono (s := s) (r := r) j (f + ((chr s k).toNat - 48)) false (k + 1) P
          omega
      · exact Nat.le_refl k
    · exact Nat.le_refl k

theorem row_ag {s t : ByteArray} {m : Nat} (h : Ag s t m) {r : Nat} : ∀ j f free k P, pos (rowR s r j f free k P) ≤ m → rowR t r j f free k P = rowR s r j f free k P
  | 0, f, free, k, P, _ => rfl
  | j + 1, f, free, k, P, hp => by
    rw [rowR] at hp ⊢
    rw [rowR]
    by_cases hf : f < 8
    · rw [if_pos hf] at hp ⊢
      rw [if_pos hf]
      cases ht : takeC s k (rowL free f) with
      | false =>
        rw [if_neg (by rw [ht]; decide)] at hp
        rw [if_neg (by rw [h.no (show k ≤ m from hp) ht]; decide), if_neg (by decide)]
      | true =>
        rw [if_pos ht] at hp
        have hkm : k < m := by
          split at hp
          · rename_i i _
            have := row_mono (s := s) (r := r) j (f + 1) true (k + 1) (ovA P (2 * (8 * r + f)) 2 (pX ((i / 2 + 1 : Nat) : Int) ((i % 2 : Nat) : Int)))
            omega
          · have := row_mono (s := s) (r := r) j (f + ((chr s k).toNat - 48)) false (k + 1) P
            omega
        rw [if_pos (by rw [h.lo k hkm, ht]), if_pos rfl, h.ch k hkm]
        cases hc : pcI (chr s k) with
        | some i =>
          rw [hc] at hp
          exact row_ag h j _ _ _ _ hp
        | none =>
          rw [hc] at hp
          exact row_ag h j _ _ _ _ hp
    · rw [if_neg hf]
      rw [if_neg hf]

theorem rks_mono {s : ByteArray} : ∀ j k P, k ≤ pos (rksR s j k P)
  | 0, k, P => Nat.le_refl k
  | j + 1, k, P => by
    have h1 := row_mono (s := s) (r := j) 9 0 true k P
    rw [rksR]
    cases hr : rowR s j 9 0 true k P with
    | error e => rw [hr] at h1; exact h1
    | ok x =>
      obtain ⟨P1, k1⟩ := x
      rw [hr] at h1
      have h1 : k ≤ k1 := h1
      simp only
      split
      · split
        · have := rks_mono (s := s) j (k1 + 1) P1
          omega
        · exact h1
      · exact h1

theorem rks_ag {s t : ByteArray} {m : Nat} (h : Ag s t m) : ∀ j k P, pos (rksR s j k P) ≤ m → rksR t j k P = rksR s j k P
  | 0, k, P, _ => rfl
  | j + 1, k, P, hp => by
    rw [rksR] at hp ⊢
    rw [rksR]
    have hr : pos (rowR s j 9 0 true k P) ≤ m := by
      cases hr : rowR s j 9 0 true k P with
      | error e => rw [hr] at hp; exact hp
      | ok x =>
        obtain ⟨P1, k1⟩ := x
        rw [hr] at hp
        show k1 ≤ m
        simp only at hp
        split at hp
        · split at hp
          · have := rks_mono (s := s) j (k1 + 1) P1
            omega
          · exact hp
        · exact hp
    rw [row_ag h 9 0 true k P hr]
    cases hq : rowR s j 9 0 true k P with
    | error e => rfl
    | ok x =>
      obtain ⟨P1, k1⟩ := x
      rw [hq] at hp
      simp only at hp ⊢
      split
      · rename_i h0
        rw [if_pos h0] at hp
        cases ht : takeC s k1 slaS with
        | false =>
          rw [if_neg (by rw [ht]; decide)] at hp
          rw [if_neg (by rw [h.no (show k1 ≤ m from hp) ht]; decide), if_neg (by decide)]
        | true =>
          rw [if_pos ht] at hp
          have hkm : k1 < m := by
            have := rks_mono (s := s) j (k1 + 1) P1
            omega
          rw [if_pos (by rw [h.lo k1 hkm, ht]), if_pos rfl]
          exact rks_ag h j _ _ hp
      · rfl

theorem numR_mono {s : ByteArray} : ∀ j k v, k ≤ (numR s j k v).1
  | 0, k, v => Nat.le_refl k
  | j + 1, k, v => by
    rw [numR]
    split
    · split
      · have := numR_mono (s := s) j (k + 1) (10 * v + digV s k); omega
      · exact Nat.le_refl k
    · exact Nat.le_refl k
theorem numR_ag {s t : ByteArray} {m : Nat} (h : Ag s t m) : ∀ j k v, (numR s j k v).1 ≤ m → numR t j k v = numR s j k v
  | 0, k, v, _ => rfl
  | j + 1, k, v, hp => by
    rw [numR] at hp ⊢
    rw [numR]
    split
    · rename_i hv
      rw [if_pos hv] at hp
      cases ht : takeC s k digS with
      | false =>
        rw [if_neg (by rw [ht]; decide)] at hp
        rw [if_neg (by rw [h.no (show k ≤ m from hp) ht]; decide), if_neg (by decide)]
      | true =>
        rw [if_pos ht] at hp
        have hkm : k < m := by have := numR_mono (s := s) j (k + 1) (10 * v + digV s k); omega
        rw [if_pos (by rw [h.lo k hkm, ht]), if_pos rfl]
        have e : digV t k = digV s k := by unfold digV; rw [h.ch k hkm]
        rw [e]
        exact numR_ag h j _ _ hp
    · rfl

theorem numP_mono {s : ByteArray} {c k : Nat} {P : Nat → Int} : k ≤ pos (numP s c P k) := by
  unfold numP numberR
  split
  · have := numR_mono (s := s) 5 (k + 1) (digV s k)
    show k ≤ (numR s 5 (k + 1) (digV s k)).1
    omega
  · exact Nat.le_refl k
theorem numP_ag {s t : ByteArray} {m : Nat} (h : Ag s t m) {c k : Nat} {P : Nat → Int} (hp : pos (numP s c P k) ≤ m) : numP t c P k = numP s c P k := by
  unfold numP numberR at hp ⊢
  cases ht : takeC s k digS with
  | false =>
    rw [if_neg (by rw [ht]; decide)] at hp
    rw [if_neg (by rw [h.no (show k ≤ m from hp) ht]; decide), if_neg (by decide)]
  | true =>
    rw [if_pos ht] at hp
    have hp : (numR s 5 (k + 1) (digV s k)).1 ≤ m := hp
    have hkm : k < m := by have := numR_mono (s := s) 5 (k + 1) (digV s k); omega
    rw [if_pos (by rw [h.lo k hkm, ht]), if_pos rfl]
    have e : digV t k = digV s k := by unfold digV; rw [h.ch k hkm]
    rw [e, numR_ag h 5 _ _ hp]

theorem cstR_mono {s : ByteArray} : ∀ j fr k C, k ≤ (cstR s j fr k C).2
  | 0, fr, k, C => Nat.le_refl k
  | j + 1, fr, k, C => by
    rw [cstR]
    split
    · have := cstR_mono (s := s) j ((ixC (chr s k)).toNat + 1) (k + 1) (C + 2 ^ (ixC (chr s k)).toNat); omega
    · exact Nat.le_refl k
theorem cstR_ag {s t : ByteArray} {m : Nat} (h : Ag s t m) : ∀ j fr k C, (cstR s j fr k C).2 ≤ m → cstR t j fr k C = cstR s j fr k C
  | 0, fr, k, C, _ => rfl
  | j + 1, fr, k, C, hp => by
    rw [cstR] at hp ⊢
    rw [cstR]
    cases ht : takeC s k (castL fr) with
    | false =>
      rw [if_neg (by rw [ht]; decide)] at hp
      rw [if_neg (by rw [h.no (show k ≤ m from hp) ht]; decide), if_neg (by decide)]
    | true =>
      rw [if_pos ht] at hp
      have hkm : k < m := by have := cstR_mono (s := s) j ((ixC (chr s k)).toNat + 1) (k + 1) (C + 2 ^ (ixC (chr s k)).toNat); omega
      rw [if_pos (by rw [h.lo k hkm, ht]), if_pos rfl, h.ch k hkm]
      exact cstR_ag h j _ _ _ hp

theorem castle_mono {s : ByteArray} {k : Nat} : k ≤ pos (castleR s k) := by
  unfold castleR
  split
  · exact Nat.le_succ k
  · split
    · exact cstR_mono 5 0 k 0
    · exact Nat.le_refl k
theorem castle_ag {s t : ByteArray} {m : Nat} (h : Ag s t m) {k : Nat} (hp : pos (castleR s k) ≤ m) : castleR t k = castleR s k := by
  have hk : k ≤ m := Nat.le_trans castle_mono hp
  unfold castleR at hp ⊢
  by_cases h1 : takeC s k linS = true
  · simp only [h1, if_true] at hp
    have hkm : k < m := hp
    have t1 : takeC t k linS = true := by rw [h.lo k hkm, h1]
    simp only [h1, t1, if_true]
  · have h1 : takeC s k linS = false := by simpa using h1
    have t1 := h.no hk h1
    simp only [h1, t1, Bool.false_eq_true, if_false] at hp ⊢
    by_cases h2 : takeC s k (castL 0) = true
    · simp only [h2, if_true] at hp
      have hp : (cstR s 5 0 k 0).2 ≤ m := hp
      have hkm : k < m := by
        have hq := hp
        rw [cstR, if_pos h2] at hq
        have := cstR_mono (s := s) 4 ((ixC (chr s k)).toNat + 1) (k + 1) (0 + 2 ^ (ixC (chr s k)).toNat)
        omega
      have t2 : takeC t k (castL 0) = true := by rw [h.lo k hkm, h2]
      simp only [h2, t2, if_true]
      rw [cstR_ag h 5 0 k 0 hp]
    · have h2 : takeC s k (castL 0) = false := by simpa using h2
      have t2 := h.no hk h2
      simp only [h2, t2, Bool.false_eq_true, if_false]

theorem over_mono {s : ByteArray} {k : Nat} : k ≤ pos (overR s k) := by
  unfold overR
  split
  · exact Nat.le_succ k
  · split
    · split
      · show k ≤ k + 2; omega
      · exact Nat.le_succ k
    · exact Nat.le_refl k
theorem over_ag {s t : ByteArray} {m : Nat} (h : Ag s t m) {k : Nat} (hp : pos (overR s k) ≤ m) : overR t k = overR s k := by
  have hk : k ≤ m := Nat.le_trans over_mono hp
  unfold overR at hp ⊢
  by_cases h1 : takeC s k linS = true
  · simp only [h1, if_true] at hp
    have hkm : k < m := hp
    have t1 : takeC t k linS = true := by rw [h.lo k hkm, h1]
    simp only [h1, t1, if_true]
  · have h1 : takeC s k linS = false := by simpa using h1
    have t1 := h.no hk h1
    simp only [h1, t1, Bool.false_eq_true, if_false] at hp ⊢
    by_cases h2 : takeC s k filS = true
    · simp only [h2, if_true] at hp
      have hkm : k < m := by
        split at hp
        · have hp : k + 2 ≤ m := hp; omega
        · exact hp
      have t2 : takeC t k filS = true := by rw [h.lo k hkm, h2]
      simp only [h2, t2, if_true]
      by_cases h3 : takeC s (k + 1) rnkS = true
      · simp only [h3, if_true] at hp
        have hk2 : k + 1 < m := hp
        have t3 : takeC t (k + 1) rnkS = true := by rw [h.lo _ hk2, h3]
        simp only [h3, t3, if_true]
        rw [h.ch _ hkm, h.ch _ hk2]
      · have h3 : takeC s (k + 1) rnkS = false := by simpa using h3
        have t3 := h.no (show k + 1 ≤ m from hkm) h3
        simp only [h3, t3, Bool.false_eq_true, if_false]
    · have h2 : takeC s k filS = false := by simpa using h2
      have t2 := h.no hk h2
      simp only [h2, t2, Bool.false_eq_true, if_false]

theorem map_pos {α β : Type} (g : α × Nat → β) (r : Except Nat (α × Nat)) : pos (r.map fun x => (g x, x.2)) = pos r := by
  cases r with
  | error e => rfl
  | ok x => rfl

theorem inn_mono {s : ByteArray} {i k : Nat} {P : Nat → Int} : k ≤ pos (innR s i P k) := by
  match i with
  | 0 =>
    show k ≤ pos (sideR s P k)
    unfold sideR
    split
    · exact Nat.le_succ k
    · exact Nat.le_refl k
  | 1 =>
    show k ≤ pos (castP s P k)
    unfold castP
    rw [map_pos (fun r => ov P 129 r.1)]
    exact castle_mono
  | 2 =>
    show k ≤ pos (overP s P k)
    unfold overP
    rw [map_pos (fun r => ov P 130 r.1)]
    exact over_mono
  | 3 => exact numP_mono
  | i + 4 => exact numP_mono
theorem inn_ag {s t : ByteArray} {m : Nat} (h : Ag s t m) {i k : Nat} {P : Nat → Int} (hp : pos (innR s i P k) ≤ m) : innR t i P k = innR s i P k := by
  match i with
  | 0 =>
    have hp : pos (sideR s P k) ≤ m := hp
    show sideR t P k = sideR s P k
    unfold sideR at hp ⊢
    cases h1 : takeC s k wbS with
    | true =>
      rw [if_pos h1] at hp
      have hkm : k < m := hp
      rw [if_pos (by rw [h.lo k hkm, h1]), if_pos rfl, h.ch k hkm]
    | false =>
      rw [if_neg (by rw [h1]; decide)] at hp
      rw [if_neg (by rw [h.no (show k ≤ m from hp) h1]; decide), if_neg (by decide)]
  | 1 =>
    have hp : pos (castP s P k) ≤ m := hp
    show castP t P k = castP s P k
    unfold castP at hp ⊢
    rw [map_pos (fun r => ov P 129 r.1)] at hp
    rw [castle_ag h hp]
  | 2 =>
    have hp : pos (overP s P k) ≤ m := hp
    show overP t P k = overP s P k
    unfold overP at hp ⊢
    rw [map_pos (fun r => ov P 130 r.1)] at hp
    rw [over_ag h hp]
  | 3 => exact numP_ag h hp
  | i + 4 => exact numP_ag h hp

theorem part_mono {s : ByteArray} {i k : Nat} {P : Nat → Int} : k ≤ pos (partR s i k P) := by
  unfold partR spR
  split
  · have := inn_mono (s := s) (i := i) (k := k + 1) (P := P); omega
  · exact Nat.le_refl k
theorem part_ag {s t : ByteArray} {m : Nat} (h : Ag s t m) {i k : Nat} {P : Nat → Int} (hp : pos (partR s i k P) ≤ m) : partR t i k P = partR s i k P := by
  unfold partR spR at hp ⊢
  cases h1 : takeC s k spcS with
  | true =>
    rw [if_pos h1] at hp
    have hkm : k < m := by have := inn_mono (s := s) (i := i) (k := k + 1) (P := P); omega
    rw [if_pos (by rw [h.lo k hkm, h1]), if_pos rfl, inn_ag h hp]
  | false =>
    rw [if_neg (by rw [h1]; decide)] at hp
    rw [if_neg (by rw [h.no (show k ≤ m from hp) h1]; decide), if_neg (by decide)]

theorem parts_mono {s : ByteArray} : ∀ j i k P, k ≤ pos (partsR s j i k P)
  | 0, i, k, P => Nat.le_refl k
  | j + 1, i, k, P => by
    have h1 := part_mono (s := s) (i := i) (k := k) (P := P)
    rw [partsR]
    cases hr : partR s i k P with
    | error e => rw [hr] at h1; exact h1
    | ok x =>
      rw [hr] at h1
      have h1 : k ≤ x.2 := h1
      have := parts_mono (s := s) j (i + 1) x.2 x.1
      show k ≤ pos (partsR s j (i + 1) x.2 x.1)
      omega
theorem parts_ag {s t : ByteArray} {m : Nat} (h : Ag s t m) : ∀ j i k P, pos (partsR s j i k P) ≤ m → partsR t j i k P = partsR s j i k P
  | 0, i, k, P, _ => rfl
  | j + 1, i, k, P, hp => by
    rw [partsR] at hp ⊢
    rw [partsR]
    have hr : pos (partR s i k P) ≤ m := by
      cases hr : partR s i k P with
      | error e => rw [hr] at hp; exact hp
      | ok x =>
        rw [hr] at hp
        have hp : pos (partsR s j (i + 1) x.2 x.1) ≤ m := hp
        have := parts_mono (s := s) j (i + 1) x.2 x.1
        show x.2 ≤ m
        omega
    rw [part_ag h hr]
    cases hq : partR s i k P with
    | error e => rfl
    | ok x =>
      rw [hq] at hp
      exact parts_ag h j _ _ _ hp

/-- A text that can not go on at a place; and another one alike up to there. -/
theorem all_ag {s t : ByteArray} {m : Nat} (h : Ag s t m) (he : allR s = .error m) : allR t = .error m ∨ (t.size ≤ m ∧ ∃ P, allR t = .ok P) := by
  unfold allR at he ⊢
  cases hr : rksR s 8 0 (fun _ => 0) with
  | error e =>
    rw [hr] at he
    cases he
    have : rksR t 8 0 (fun _ => 0) = rksR s 8 0 (fun _ => 0) := rks_ag h _ _ _ (by rw [hr]; exact Nat.le_refl _)
    rw [this, hr]
    exact .inl rfl
  | ok x =>
    obtain ⟨P, k⟩ := x
    rw [hr] at he
    simp only at he
    have hk : pos (partsR s 5 0 k P) ≤ m := by
      cases hp : partsR s 5 0 k P with
      | error e => rw [hp] at he; cases he; exact Nat.le_refl _
      | ok y =>
        rw [hp] at he
        simp only at he
        split at he
        · cases he; exact Nat.le_refl _
        · cases he
    have h1 : rksR t 8 0 (fun _ => 0) = rksR s 8 0 (fun _ => 0) := rks_ag h _ _ _ (by
      rw [hr]
      have := parts_mono (s := s) 5 0 k P
      show k ≤ m
      omega)
    rw [h1, hr]
    simp only
    rw [parts_ag h 5 0 k P hk]
    cases hp : partsR s 5 0 k P with
    | error e =>
      rw [hp] at he
      cases he
      exact .inl rfl
    | ok y =>
      obtain ⟨P', k'⟩ := y
      rw [hp] at he
      simp only at he ⊢
      split at he
      · cases he
        split
        · exact .inl rfl
        · exact .inr ⟨by omega, _, rfl⟩
      · cases he

theorem chr_ext {s : ByteArray} {m k : Nat} (h : k < m) (hm : m ≤ s.size) : chr (s.extract 0 m) k = chr s k := by
  unfold chr
  rw [Array.getD_eq_getD_getElem?, Array.getD_eq_getD_getElem?]
  have e : (s.extract 0 m).data = s.data.extract 0 m := by simp
  rw [e, Array.getElem?_extract]
  have : m ≤ s.data.size := hm
  rw [if_pos (by omega)]
  simp
theorem ext_size {s : ByteArray} {m : Nat} (hm : m ≤ s.size) : (s.extract 0 m).size = m := by
  rw [ByteArray.size_extract]; omega

/-- Cut there. -/
theorem ag_cut {s : ByteArray} {m : Nat} (hm : m ≤ s.size) : Ag s (s.extract 0 m) m where
  lo := fun k hk J => by
    unfold takeC
    rw [chr_ext hk hm, ext_size hm, decide_eq_true hk, decide_eq_true (show k < s.size by omega)]
  ch := fun k hk => chr_ext hk hm
  hi := fun J _ => by
    unfold takeC
    rw [ext_size hm, decide_eq_false (Nat.lt_irrefl m), Bool.false_and]

theorem chr_app {a b : ByteArray} {k : Nat} (h : k < a.size) : chr (a ++ b) k = chr a k := by
  unfold chr
  have h : k < a.data.size := h
  have e : (a ++ b).data = a.data ++ b.data := by simp
  rw [Array.getD_eq_getD_getElem?, Array.getD_eq_getD_getElem?, e, Array.getElem?_append_left h]

/-- The same, up to that byte. -/
theorem ag_more {s r : ByteArray} {m : Nat} (hm : m < s.size) : Ag s (s.extract 0 (m + 1) ++ r) m := by
  have hsz : (s.extract 0 (m + 1)).size = m + 1 := ext_size hm
  have hc : ∀ k, k < m + 1 → chr (s.extract 0 (m + 1) ++ r) k = chr s k := fun k hk => by rw [chr_app (by omega), chr_ext hk hm]
  have ht : ∀ k, k < m + 1 → ∀ J, takeC (s.extract 0 (m + 1) ++ r) k J = takeC s k J := fun k hk J => by
    unfold takeC
    rw [hc k hk, ByteArray.size_append, hsz, decide_eq_true (show k < m + 1 + r.size by omega), decide_eq_true (show k < s.size by omega)]
  exact ⟨fun k hk J => ht k (by omega) J, fun k hk => hc k (by omega), fun J h => by rw [ht m (by omega), h]⟩

/-- Cut there, a text is stuck there, or goes on nowhere. -/
theorem cut_ends {s : ByteArray} {m : Nat} (h : allR s = .error m) (hs : s.size ≤ 128) : (∃ P, parseR (s.extract 0 m) = (P, (m : Int), 13)) ∨ (m < s.size ∧ ∃ P e, parseR (s.extract 0 m) = (P, 0, e) ∧ (e = 0 ∨ e = 2)) := by
  have hm := allR_err h
  have hsz : (s.extract 0 m).size = m := ext_size hm
  rcases all_ag (ag_cut hm) h with h1 | ⟨_, P, h1⟩
  · left
    refine ⟨fun _ => 0, ?_⟩
    unfold parseR
    rw [if_neg (by omega), h1]
  · right
    refine ⟨?_, ?_⟩
    · rcases Nat.lt_or_ge m s.size with h2 | h2
      · exact h2
      · obtain rfl : m = s.size := by omega
        have e : s.extract 0 s.size = s := by
          apply ByteArray.ext
          simp
        rw [e, h] at h1
        cases h1
    · unfold parseR
      rw [if_neg (by omega), h1]
      simp only
      split
      · exact ⟨_, 0, rfl, .inl rfl⟩
      · exact ⟨_, 2, rfl, .inr rfl⟩

theorem more_ends {s r : ByteArray} {m : Nat} (h : allR s = .error m) (hm : m < s.size) (hs : ¬ 128 < (s.extract 0 (m + 1) ++ r).size) : parseR (s.extract 0 (m + 1) ++ r) = (fun _ => 0, (m : Int), 13) := by
  rcases all_ag (ag_more (r := r) hm) h with h1 | ⟨h2, _⟩
  · unfold parseR
    rw [if_neg hs, h1]
  · have hsz : (s.extract 0 (m + 1)).size = m + 1 := ext_size hm
    rw [ByteArray.size_append, hsz] at h2
    omega

end Go.Proofs.YtlaogmemhephnaaDoor
/- FenPlaces: the walk. -/
namespace Go.Proofs.YtlaogmemhephnaaDoor
open Go Go.Am
set_option linter.unusedSimpArgs false
set_option linter.unusedVariables false
set_option maxRecDepth 100000
theorem parse_is3 {s : ByteArray} {r : (Nat → Int) × Int × Int} (h : parseR s = r) : RF AM2 10 [.s (.str s)] (.tup [.agg 133 (ia r.1), .s (.int .i64 r.2.1), .s (.int .i64 r.2.2)]) := by
  have := parse_run s
  unfold parseV tup3 at this
  rw [h] at this
  exact this
theorem other_size {s r : ByteArray} {m : Nat} (hm : m < s.size) (hs : s.size ≤ 128) (hr : r.size ≤ 140737488355328) : (s.extract 0 (m + 1)).size + r.size ≤ 9223372036854775807 := by
  rw [ext_size hm]; omega

theorem Places_L (s r : ByteArray) (hs : 128 < s.size) (hR : parseR s = (fun _ => 0, 0, 3)) : WR AM2 5 [.s (.str s), .s (.str r)] [] (fun v _ _ => v = .s (.bool true)) := by
 refine WR_fn (a := a5) rfl rfl (entryF _) (entry_E (Nat.le_of_ble_eq_true rfl)) (m := 0) rfl ?_
 refine WP_seq ?_
 refine WP_ops ?_
 refine WO_mv rfl ?_
 refine WO_nil ?_
 refine WP_seq ?_
 refine WP_seq ?_
 refine WP_ops ?_
 refine WO_call0 rfl (awake_run) rfl rfl rfl ?_
 refine WO_un (r := .bool _) rfl rfl ?_
 refine WO_nil ?_
 refine WP_cond rfl (fun h => nomatch h) (fun _ => ?_)
 refine WP_skip ?_
 refine WP_seq ?_
 refine WP_seq ?_
 refine WP_ops ?_
 refine WO_mv (v := .s _) rfl ?_
 refine WO_lenS rfl ?_
 refine WO_bin (r := .bool true) rfl rfl (by show some (S.bool (decide ((s.size : Int) > 128))) = _; rw [decide_eq_true (by omega)]) ?_
 refine WO_nil ?_
 refine WP_cond rfl (fun _ => ?_) (fun h => nomatch h)
 refine WP_seq ?_
 refine WP_ops ?_
 refine WO_mv (v := .s _) rfl ?_
 refine WO_call0 rfl (parse_is3 hR) rfl rfl rfl ?_
 refine WO_mv (v := .tup _) rfl ?_
 refine WO_ext (v := .agg _ _) rfl rfl ?_
 refine WO_ext (v := .s (.int _ _)) rfl rfl ?_
 refine WO_ext (v := .s (.int _ _)) rfl rfl ?_
 refine WO_allocI ?_
 refine WO_stA rfl rfl rfl rfl .here ?_
 refine WO_mv (v := .s (.int _ _)) rfl ?_
 refine WO_mv (v := .s (.int _ _)) rfl ?_
 refine WO_nil ?_
 refine WP_seq ?_
 refine WP_ops ?_
 refine WO_mv (v := .s (.int _ _)) rfl ?_
 refine WO_bin (r := .bool true) rfl rfl (rfl) ?_
 refine WO_mv (v := .s (.bool _)) rfl ?_
 refine WO_gt rfl ?_
 refine WO_mv (v := .s (.int _ _)) rfl ?_
 refine WO_gt rfl ?_
 refine WO_bin (r := .bool true) rfl rfl (rfl) ?_
 refine WO_pick (v := .s (.bool _)) rfl rfl ?_
 refine WO_mv (v := .s (.bool _)) rfl ?_
 refine WO_nil ?_
 refine WP_ret ?_
 refine ⟨_, RS_tmp (v := .s (.bool _)) rfl (RS_nil), ?_⟩
 rfl
theorem Places_O (s r : ByteArray) (hs : ¬ 128 < s.size) (X : Nat → Int) (e : Int) (hR : parseR s = (X, 0, e)) (he : e = 0 ∨ e = 2) : WR AM2 5 [.s (.str s), .s (.str r)] [] (fun v _ _ => v = .s (.bool true)) := by
 refine WR_fn (a := a5) rfl rfl (entryF _) (entry_E (Nat.le_of_ble_eq_true rfl)) (m := 0) rfl ?_
 refine WP_seq ?_
 refine WP_ops ?_
 refine WO_mv rfl ?_
 refine WO_nil ?_
 refine WP_seq ?_
 refine WP_seq ?_
 refine WP_ops ?_
 refine WO_call0 rfl (awake_run) rfl rfl rfl ?_
 refine WO_un (r := .bool _) rfl rfl ?_
 refine WO_nil ?_
 refine WP_cond rfl (fun h => nomatch h) (fun _ => ?_)
 refine WP_skip ?_
 refine WP_seq ?_
 refine WP_seq ?_
 refine WP_ops ?_
 refine WO_mv (v := .s _) rfl ?_
 refine WO_lenS rfl ?_
 refine WO_bin (r := .bool false) rfl rfl (by show some (S.bool (decide ((s.size : Int) > 128))) = _; rw [decide_eq_false (by omega)]) ?_
 refine WO_nil ?_
 refine WP_cond rfl (fun h => nomatch h) (fun _ => ?_)
 refine WP_skip ?_
 refine WP_seq ?_
 refine WP_ops ?_
 refine WO_mv (v := .s _) rfl ?_
 refine WO_call0 rfl (parse_is3 hR) rfl rfl rfl ?_
 refine WO_mv (v := .tup _) rfl ?_
 refine WO_ext (v := .agg _ _) rfl rfl ?_
 refine WO_ext (v := .s (.int _ _)) rfl rfl ?_
 refine WO_ext (v := .s (.int _ _)) rfl rfl ?_
 refine WO_allocI ?_
 refine WO_stA rfl rfl rfl rfl .here ?_
 refine WO_mv (v := .s (.int _ _)) rfl ?_
 refine WO_mv (v := .s (.int _ _)) rfl ?_
 refine WO_nil ?_
 refine WP_seq ?_
 refine WP_seq ?_
 refine WP_ops ?_
 refine WO_mv (v := .s (.int _ _)) rfl ?_
 refine WO_bin (r := .bool true) rfl rfl (by rcases he with rfl | rfl <;> rfl) ?_
 refine WO_nil ?_
 refine WP_cond rfl (fun _ => ?_) (fun h => nomatch h)
 refine WP_seq ?_
 refine WP_ops ?_
 refine WO_mv (v := .s (.int _ _)) rfl ?_
 refine WO_bin (r := .bool _) rfl rfl rfl ?_
 refine WO_mv (v := .s (.bool _)) rfl ?_
 refine WO_case (t := 45) rfl (fun h45 => ?_) (fun h45 => ?_)
 ·try simp only [NM] at h45
  refine WO_gt rfl ?_
  refine WO_mv (v := .s (.int _ _)) rfl ?_
  refine WO_gt rfl ?_
  refine WO_bin (r := .bool true) rfl rfl (rfl) ?_
  refine WO_pick (v := .s (.bool _)) rfl rfl ?_
  refine WO_mv (v := .s (.bool _)) rfl ?_
  refine WO_gf rfl rfl ?_
  refine WO_gf rfl rfl ?_
  refine WO_gf rfl rfl ?_
  refine WO_gu rfl ?_
  refine WO_gu rfl ?_
  refine WO_gf rfl rfl ?_
  refine WO_pick (v := .s (.bool _)) rfl rfl ?_
  refine WO_mv (v := .s (.bool _)) rfl ?_
  refine WO_nil ?_
  refine WP_ret ?_
  refine ⟨_, RS_tmp (v := .s (.bool _)) rfl (RS_nil), ?_⟩
  rfl
 ·try simp only [NM] at h45
  refine WO_gf rfl rfl ?_
  refine WO_gf rfl rfl ?_
  refine WO_pick (v := .s (.bool _)) rfl rfl ?_
  refine WO_mv (v := .s (.bool _)) rfl ?_
  refine WO_gt rfl ?_
  refine WO_mv (v := .s (.int _ _)) rfl ?_
  refine WO_gt rfl ?_
  refine WO_bin (r := .bool true) rfl rfl (by rw [show e = 2 by omega]; rfl) ?_
  refine WO_gt rfl ?_
  refine WO_mv (v := .s (.bool _)) rfl ?_
  refine WO_gt rfl ?_
  refine WO_mv (v := .s (.int _ _)) rfl ?_
  refine WO_gt rfl ?_
  refine WO_bin (r := .bool true) rfl rfl (rfl) ?_
  refine WO_gt rfl ?_
  refine WO_pick (v := .s (.bool _)) rfl rfl ?_
  refine WO_pick (v := .s (.bool _)) rfl rfl ?_
  refine WO_mv (v := .s (.bool _)) rfl ?_
  refine WO_nil ?_
  refine WP_ret ?_
  refine ⟨_, RS_tmp (v := .s (.bool _)) rfl (RS_nil), ?_⟩
  rfl
theorem Places_E1a (s r : ByteArray) (m : Nat) (hs : s.size ≤ 128) (hr : r.size ≤ 140737488355328) (hR : parseR s = (fun _ => 0, (m : Int), 13)) (hE : allR s = .error m) (hm : m < s.size) (Y : Nat → Int) (hC : parseR (s.extract 0 m) = (Y, (m : Int), 13)) : WR AM2 5 [.s (.str s), .s (.str r)] [] (fun v _ _ => v = .s (.bool true)) := by
 refine WR_fn (a := a5) rfl rfl (entryF _) (entry_E (Nat.le_of_ble_eq_true rfl)) (m := 0) rfl ?_
 refine WP_seq ?_
 refine WP_ops ?_
 refine WO_mv rfl ?_
 refine WO_nil ?_
 refine WP_seq ?_
 refine WP_seq ?_
 refine WP_ops ?_
 refine WO_call0 rfl (awake_run) rfl rfl rfl ?_
 refine WO_un (r := .bool _) rfl rfl ?_
 refine WO_nil ?_
 refine WP_cond rfl (fun h => nomatch h) (fun _ => ?_)
 refine WP_skip ?_
 refine WP_seq ?_
 refine WP_seq ?_
 refine WP_ops ?_
 refine WO_mv (v := .s _) rfl ?_
 refine WO_lenS rfl ?_
 refine WO_bin (r := .bool false) rfl rfl (by show some (S.bool (decide ((s.size : Int) > 128))) = _; rw [decide_eq_false (by omega)]) ?_
 refine WO_nil ?_
 refine WP_cond rfl (fun h => nomatch h) (fun _ => ?_)
 refine WP_skip ?_
 refine WP_seq ?_
 refine WP_ops ?_
 refine WO_mv (v := .s _) rfl ?_
 refine WO_call0 rfl (parse_is3 hR) rfl rfl rfl ?_
 refine WO_mv (v := .tup _) rfl ?_
 refine WO_ext (v := .agg _ _) rfl rfl ?_
 refine WO_ext (v := .s (.int _ _)) rfl rfl ?_
 refine WO_ext (v := .s (.int _ _)) rfl rfl ?_
 refine WO_allocI ?_
 refine WO_stA rfl rfl rfl rfl .here ?_
 refine WO_mv (v := .s (.int _ _)) rfl ?_
 refine WO_mv (v := .s (.int _ _)) rfl ?_
 refine WO_nil ?_
 refine WP_seq ?_
 refine WP_seq ?_
 refine WP_ops ?_
 refine WO_mv (v := .s (.int _ _)) rfl ?_
 refine WO_bin (r := .bool false) rfl rfl (rfl) ?_
 refine WO_nil ?_
 refine WP_cond rfl (fun h => nomatch h) (fun _ => ?_)
 refine WP_skip ?_
 refine WP_seq ?_
 refine WP_ops ?_
 refine WO_mv (v := .s _) rfl ?_
 refine WO_mv (v := .s (.int _ _)) rfl ?_
 refine WO_slS (a := 0) (b := (m : Int)) rfl rfl rfl (by omega) ?_
 rw [show ((0 : Int)).toNat = 0 from rfl, Int.toNat_natCast]
 refine WO_call0 rfl (parse_is3 hC) rfl rfl rfl ?_
 refine WO_mv (v := .tup _) rfl ?_
 refine WO_ext (v := .agg _ _) rfl rfl ?_
 refine WO_ext (v := .s (.int _ _)) rfl rfl ?_
 refine WO_ext (v := .s (.int _ _)) rfl rfl ?_
 refine WO_allocI ?_
 refine WO_stA rfl rfl rfl rfl .here ?_
 refine WO_mv (v := .s (.int _ _)) rfl ?_
 refine WO_mv (v := .s (.int _ _)) rfl ?_
 refine WO_nil ?_
 refine WP_seq ?_
 refine WP_seq ?_
 refine WP_ops ?_
 refine WO_mv (v := .s (.int _ _)) rfl ?_
 refine WO_bin (r := .bool true) rfl rfl (rfl) ?_
 refine WO_mv (v := .s (.bool _)) rfl ?_
 refine WO_gt rfl ?_
 refine WO_mv (v := .s (.int _ _)) rfl ?_
 refine WO_gt rfl ?_
 refine WO_mv (v := .s (.int _ _)) rfl ?_
 refine WO_gt rfl ?_
 refine WO_bin (r := .bool false) rfl rfl (by show some (S.bool (_ != _)) = _; simp) ?_
 refine WO_pick (v := .s (.bool _)) rfl rfl ?_
 refine WO_mv (v := .s (.bool _)) rfl ?_
 refine WO_gt rfl ?_
 refine WO_mv (v := .s (.int _ _)) rfl ?_
 refine WO_gt rfl ?_
 refine WO_mv (v := .s _) rfl ?_
 refine WO_gt rfl ?_
 refine WO_lenS rfl ?_
 refine WO_gt rfl ?_
 refine WO_bin (r := .bool true) rfl rfl (by show some (S.bool (decide ((m : Int) < (s.size : Int)))) = _; rw [decide_eq_true (by omega)]) ?_
 refine WO_gt rfl ?_
 refine WO_mv (v := .s (.bool _)) rfl ?_
 refine WO_gt rfl ?_
 refine WO_mv (v := .s (.int _ _)) rfl ?_
 refine WO_gt rfl ?_
 refine WO_bin (r := .bool false) rfl rfl (rfl) ?_
 refine WO_gt rfl ?_
 refine WO_pick (v := .s (.bool _)) rfl rfl ?_
 refine WO_gt rfl ?_
 refine WO_mv (v := .s (.bool _)) rfl ?_
 refine WO_gf rfl rfl ?_
 refine WO_gf rfl rfl ?_
 refine WO_gt rfl ?_
 refine WO_pick (v := .s (.bool _)) rfl rfl ?_
 refine WO_gt rfl ?_
 refine WO_mv (v := .s (.bool _)) rfl ?_
 refine WO_gf rfl rfl ?_
 refine WO_gf rfl rfl ?_
 refine WO_gt rfl ?_
 refine WO_pick (v := .s (.bool _)) rfl rfl ?_
 refine WO_pick (v := .s (.bool _)) rfl rfl ?_
 refine WO_nil ?_
 refine WP_cond rfl (fun h => nomatch h) (fun _ => ?_)
 refine WP_skip ?_
 refine WP_seq ?_
 refine WP_seq ?_
 refine WP_ops ?_
 refine WO_mv (v := .s (.int _ _)) rfl ?_
 refine WO_mv (v := .s _) rfl ?_
 refine WO_lenS rfl ?_
 refine WO_bin (r := .bool false) rfl rfl (by show some (S.bool ((m : Int) == (s.size : Int))) = _; rw [show (((m : Int) == (s.size : Int)) = false) from by simp; omega]) ?_
 refine WO_nil ?_
 refine WP_cond rfl (fun h => nomatch h) (fun _ => ?_)
 refine WP_skip ?_
 refine WP_seq ?_
 refine WP_ops ?_
 refine WO_mv (v := .s _) rfl ?_
 refine WO_mv (v := .s (.int _ _)) rfl ?_
 refine WO_add (a := (m : Int)) rfl rfl (by omega) ?_
 refine WO_slS (a := 0) (b := (m : Int) + 1) rfl rfl rfl (by omega) ?_
 rw [show ((0 : Int)).toNat = 0 from rfl, show ((m : Int) + 1).toNat = m + 1 by omega]
 refine WO_mv (v := .s _) rfl ?_
 refine WO_bin (r := .str _) rfl rfl (add_str (other_size hm hs hr)) ?_
 refine WO_mv (v := .s _) rfl ?_
 refine WO_nil ?_
 refine WP_seq ?_
 refine WP_seq ?_
 refine WP_ops ?_
 refine WO_mv (v := .s _) rfl ?_
 refine WO_lenS rfl ?_
 refine WO_bin (r := .bool _) rfl rfl rfl ?_
 refine WO_nil ?_
 refine WP_cond rfl (fun h104 => ?_) (fun h104 => ?_)
 ·try simp only [NM] at h104
  refine WP_seq ?_
  refine WP_ops ?_
  refine WO_mv rfl ?_
  refine WO_nil ?_
  refine WP_ret ?_
  refine ⟨_, RS_tmp (v := .s (.bool _)) rfl (RS_nil), ?_⟩
  rfl
 ·try simp only [NM] at h104
  refine WP_skip ?_
  refine WP_seq ?_
  refine WP_ops ?_
  refine WO_mv (v := .s _) rfl ?_
  refine WO_call0 rfl (parse_is3 (more_ends hE hm (by omega))) rfl rfl rfl ?_
  refine WO_mv (v := .tup _) rfl ?_
  refine WO_ext (v := .agg _ _) rfl rfl ?_
  refine WO_ext (v := .s (.int _ _)) rfl rfl ?_
  refine WO_ext (v := .s (.int _ _)) rfl rfl ?_
  refine WO_allocI ?_
  refine WO_stA rfl rfl rfl rfl .here ?_
  refine WO_mv (v := .s (.int _ _)) rfl ?_
  refine WO_mv (v := .s (.int _ _)) rfl ?_
  refine WO_nil ?_
  refine WP_seq ?_
  refine WP_ops ?_
  refine WO_mv (v := .s (.int _ _)) rfl ?_
  refine WO_bin (r := .bool true) rfl rfl (rfl) ?_
  refine WO_mv (v := .s (.bool _)) rfl ?_
  refine WO_gt rfl ?_
  refine WO_mv (v := .s (.int _ _)) rfl ?_
  refine WO_gt rfl ?_
  refine WO_mv (v := .s (.int _ _)) rfl ?_
  refine WO_gt rfl ?_
  refine WO_bin (r := .bool true) rfl rfl (by show some (S.bool (_ == _)) = _; rw [beq_self_eq_true]) ?_
  refine WO_pick (v := .s (.bool _)) rfl rfl ?_
  refine WO_mv (v := .s (.bool _)) rfl ?_
  refine WO_nil ?_
  refine WP_ret ?_
  refine ⟨_, RS_tmp (v := .s (.bool _)) rfl (RS_nil), ?_⟩
  rfl
theorem Places_E1b (s r : ByteArray) (m : Nat) (hs : s.size ≤ 128) (hr : r.size ≤ 140737488355328) (hR : parseR s = (fun _ => 0, (m : Int), 13)) (hE : allR s = .error m) (hm : m = s.size) (Y : Nat → Int) (hC : parseR (s.extract 0 m) = (Y, (m : Int), 13)) : WR AM2 5 [.s (.str s), .s (.str r)] [] (fun v _ _ => v = .s (.bool true)) := by
 refine WR_fn (a := a5) rfl rfl (entryF _) (entry_E (Nat.le_of_ble_eq_true rfl)) (m := 0) rfl ?_
 refine WP_seq ?_
 refine WP_ops ?_
 refine WO_mv rfl ?_
 refine WO_nil ?_
 refine WP_seq ?_
 refine WP_seq ?_
 refine WP_ops ?_
 refine WO_call0 rfl (awake_run) rfl rfl rfl ?_
 refine WO_un (r := .bool _) rfl rfl ?_
 refine WO_nil ?_
 refine WP_cond rfl (fun h => nomatch h) (fun _ => ?_)
 refine WP_skip ?_
 refine WP_seq ?_
 refine WP_seq ?_
 refine WP_ops ?_
 refine WO_mv (v := .s _) rfl ?_
 refine WO_lenS rfl ?_
 refine WO_bin (r := .bool false) rfl rfl (by show some (S.bool (decide ((s.size : Int) > 128))) = _; rw [decide_eq_false (by omega)]) ?_
 refine WO_nil ?_
 refine WP_cond rfl (fun h => nomatch h) (fun _ => ?_)
 refine WP_skip ?_
 refine WP_seq ?_
 refine WP_ops ?_
 refine WO_mv (v := .s _) rfl ?_
 refine WO_call0 rfl (parse_is3 hR) rfl rfl rfl ?_
 refine WO_mv (v := .tup _) rfl ?_
 refine WO_ext (v := .agg _ _) rfl rfl ?_
 refine WO_ext (v := .s (.int _ _)) rfl rfl ?_
 refine WO_ext (v := .s (.int _ _)) rfl rfl ?_
 refine WO_allocI ?_
 refine WO_stA rfl rfl rfl rfl .here ?_
 refine WO_mv (v := .s (.int _ _)) rfl ?_
 refine WO_mv (v := .s (.int _ _)) rfl ?_
 refine WO_nil ?_
 refine WP_seq ?_
 refine WP_seq ?_
 refine WP_ops ?_
 refine WO_mv (v := .s (.int _ _)) rfl ?_
 refine WO_bin (r := .bool false) rfl rfl (rfl) ?_
 refine WO_nil ?_
 refine WP_cond rfl (fun h => nomatch h) (fun _ => ?_)
 refine WP_skip ?_
 refine WP_seq ?_
 refine WP_ops ?_
 refine WO_mv (v := .s _) rfl ?_
 refine WO_mv (v := .s (.int _ _)) rfl ?_
 refine WO_slS (a := 0) (b := (m : Int)) rfl rfl rfl (by omega) ?_
 rw [show ((0 : Int)).toNat = 0 from rfl, Int.toNat_natCast]
 refine WO_call0 rfl (parse_is3 hC) rfl rfl rfl ?_
 refine WO_mv (v := .tup _) rfl ?_
 refine WO_ext (v := .agg _ _) rfl rfl ?_
 refine WO_ext (v := .s (.int _ _)) rfl rfl ?_
 refine WO_ext (v := .s (.int _ _)) rfl rfl ?_
 refine WO_allocI ?_
 refine WO_stA rfl rfl rfl rfl .here ?_
 refine WO_mv (v := .s (.int _ _)) rfl ?_
 refine WO_mv (v := .s (.int _ _)) rfl ?_
 refine WO_nil ?_
 refine WP_seq ?_
 refine WP_seq ?_
 refine WP_ops ?_
 refine WO_mv (v := .s (.int _ _)) rfl ?_
 refine WO_bin (r := .bool true) rfl rfl (rfl) ?_
 refine WO_mv (v := .s (.bool _)) rfl ?_
 refine WO_gt rfl ?_
 refine WO_mv (v := .s (.int _ _)) rfl ?_
 refine WO_gt rfl ?_
 refine WO_mv (v := .s (.int _ _)) rfl ?_
 refine WO_gt rfl ?_
 refine WO_bin (r := .bool false) rfl rfl (by show some (S.bool (_ != _)) = _; simp) ?_
 refine WO_pick (v := .s (.bool _)) rfl rfl ?_
 refine WO_mv (v := .s (.bool _)) rfl ?_
 refine WO_gt rfl ?_
 refine WO_mv (v := .s (.int _ _)) rfl ?_
 refine WO_gt rfl ?_
 refine WO_mv (v := .s _) rfl ?_
 refine WO_gt rfl ?_
 refine WO_lenS rfl ?_
 refine WO_gt rfl ?_
 refine WO_bin (r := .bool false) rfl rfl (by show some (S.bool (decide ((m : Int) < (s.size : Int)))) = _; rw [decide_eq_false (by omega)]) ?_
 refine WO_gt rfl ?_
 refine WO_mv (v := .s (.bool _)) rfl ?_
 refine WO_gf rfl rfl ?_
 refine WO_gf rfl rfl ?_
 refine WO_gt rfl ?_
 refine WO_pick (v := .s (.bool _)) rfl rfl ?_
 refine WO_gt rfl ?_
 refine WO_mv (v := .s (.bool _)) rfl ?_
 refine WO_gf rfl rfl ?_
 refine WO_gf rfl rfl ?_
 refine WO_gt rfl ?_
 refine WO_pick (v := .s (.bool _)) rfl rfl ?_
 refine WO_gt rfl ?_
 refine WO_mv (v := .s (.bool _)) rfl ?_
 refine WO_gf rfl rfl ?_
 refine WO_gf rfl rfl ?_
 refine WO_gt rfl ?_
 refine WO_pick (v := .s (.bool _)) rfl rfl ?_
 refine WO_pick (v := .s (.bool _)) rfl rfl ?_
 refine WO_nil ?_
 refine WP_cond rfl (fun h => nomatch h) (fun _ => ?_)
 refine WP_skip ?_
 refine WP_seq ?_
 refine WP_seq ?_
 refine WP_ops ?_
 refine WO_mv (v := .s (.int _ _)) rfl ?_
 refine WO_mv (v := .s _) rfl ?_
 refine WO_lenS rfl ?_
 refine WO_bin (r := .bool true) rfl rfl (by show some (S.bool ((m : Int) == (s.size : Int))) = _; rw [show (((m : Int) == (s.size : Int)) = true) from by simp; omega]) ?_
 refine WO_nil ?_
 refine WP_cond rfl (fun _ => ?_) (fun h => nomatch h)
 refine WP_seq ?_
 refine WP_ops ?_
 refine WO_mv (v := .s (.int _ _)) rfl ?_
 refine WO_bin (r := .bool true) rfl rfl (rfl) ?_
 refine WO_mv (v := .s (.bool _)) rfl ?_
 refine WO_nil ?_
 refine WP_ret ?_
 refine ⟨_, RS_tmp (v := .s (.bool _)) rfl (RS_nil), ?_⟩
 rfl
theorem Places_E2 (s r : ByteArray) (m : Nat) (hs : s.size ≤ 128) (hr : r.size ≤ 140737488355328) (hR : parseR s = (fun _ => 0, (m : Int), 13)) (hE : allR s = .error m) (hm : m < s.size) (Y : Nat → Int) (hC : parseR (s.extract 0 m) = (Y, 0, 0)) : WR AM2 5 [.s (.str s), .s (.str r)] [] (fun v _ _ => v = .s (.bool true)) := by
 refine WR_fn (a := a5) rfl rfl (entryF _) (entry_E (Nat.le_of_ble_eq_true rfl)) (m := 0) rfl ?_
 refine WP_seq ?_
 refine WP_ops ?_
 refine WO_mv rfl ?_
 refine WO_nil ?_
 refine WP_seq ?_
 refine WP_seq ?_
 refine WP_ops ?_
 refine WO_call0 rfl (awake_run) rfl rfl rfl ?_
 refine WO_un (r := .bool _) rfl rfl ?_
 refine WO_nil ?_
 refine WP_cond rfl (fun h => nomatch h) (fun _ => ?_)
 refine WP_skip ?_
 refine WP_seq ?_
 refine WP_seq ?_
 refine WP_ops ?_
 refine WO_mv (v := .s _) rfl ?_
 refine WO_lenS rfl ?_
 refine WO_bin (r := .bool false) rfl rfl (by show some (S.bool (decide ((s.size : Int) > 128))) = _; rw [decide_eq_false (by omega)]) ?_
 refine WO_nil ?_
 refine WP_cond rfl (fun h => nomatch h) (fun _ => ?_)
 refine WP_skip ?_
 refine WP_seq ?_
 refine WP_ops ?_
 refine WO_mv (v := .s _) rfl ?_
 refine WO_call0 rfl (parse_is3 hR) rfl rfl rfl ?_
 refine WO_mv (v := .tup _) rfl ?_
 refine WO_ext (v := .agg _ _) rfl rfl ?_
 refine WO_ext (v := .s (.int _ _)) rfl rfl ?_
 refine WO_ext (v := .s (.int _ _)) rfl rfl ?_
 refine WO_allocI ?_
 refine WO_stA rfl rfl rfl rfl .here ?_
 refine WO_mv (v := .s (.int _ _)) rfl ?_
 refine WO_mv (v := .s (.int _ _)) rfl ?_
 refine WO_nil ?_
 refine WP_seq ?_
 refine WP_seq ?_
 refine WP_ops ?_
 refine WO_mv (v := .s (.int _ _)) rfl ?_
 refine WO_bin (r := .bool false) rfl rfl (rfl) ?_
 refine WO_nil ?_
 refine WP_cond rfl (fun h => nomatch h) (fun _ => ?_)
 refine WP_skip ?_
 refine WP_seq ?_
 refine WP_ops ?_
 refine WO_mv (v := .s _) rfl ?_
 refine WO_mv (v := .s (.int _ _)) rfl ?_
 refine WO_slS (a := 0) (b := (m : Int)) rfl rfl rfl (by omega) ?_
 rw [show ((0 : Int)).toNat = 0 from rfl, Int.toNat_natCast]
 refine WO_call0 rfl (parse_is3 hC) rfl rfl rfl ?_
 refine WO_mv (v := .tup _) rfl ?_
 refine WO_ext (v := .agg _ _) rfl rfl ?_
 refine WO_ext (v := .s (.int _ _)) rfl rfl ?_
 refine WO_ext (v := .s (.int _ _)) rfl rfl ?_
 refine WO_allocI ?_
 refine WO_stA rfl rfl rfl rfl .here ?_
 refine WO_mv (v := .s (.int _ _)) rfl ?_
 refine WO_mv (v := .s (.int _ _)) rfl ?_
 refine WO_nil ?_
 refine WP_seq ?_
 refine WP_seq ?_
 refine WP_ops ?_
 refine WO_mv (v := .s (.int _ _)) rfl ?_
 refine WO_bin (r := .bool false) rfl rfl (rfl) ?_
 refine WO_mv (v := .s (.bool _)) rfl ?_
 refine WO_gf rfl rfl ?_
 refine WO_gf rfl rfl ?_
 refine WO_gf rfl rfl ?_
 refine WO_pick (v := .s (.bool _)) rfl rfl ?_
 refine WO_mv (v := .s (.bool _)) rfl ?_
 refine WO_gt rfl ?_
 refine WO_mv (v := .s (.int _ _)) rfl ?_
 refine WO_gt rfl ?_
 refine WO_mv (v := .s _) rfl ?_
 refine WO_gt rfl ?_
 refine WO_lenS rfl ?_
 refine WO_gt rfl ?_
 refine WO_bin (r := .bool true) rfl rfl (by show some (S.bool (decide ((m : Int) < (s.size : Int)))) = _; rw [decide_eq_true (by omega)]) ?_
 refine WO_gt rfl ?_
 refine WO_mv (v := .s (.bool _)) rfl ?_
 refine WO_gt rfl ?_
 refine WO_mv (v := .s (.int _ _)) rfl ?_
 refine WO_gt rfl ?_
 refine WO_bin (r := .bool true) rfl rfl (rfl) ?_
 refine WO_gt rfl ?_
 refine WO_pick (v := .s (.bool _)) rfl rfl ?_
 refine WO_gt rfl ?_
 refine WO_mv (v := .s (.bool _)) rfl ?_
 refine WO_gt rfl ?_
 refine WO_mv (v := .s (.int _ _)) rfl ?_
 refine WO_gt rfl ?_
 refine WO_bin (r := .bool false) rfl rfl (rfl) ?_
 refine WO_gt rfl ?_
 refine WO_pick (v := .s (.bool _)) rfl rfl ?_
 refine WO_gt rfl ?_
 refine WO_mv (v := .s (.bool _)) rfl ?_
 refine WO_gf rfl rfl ?_
 refine WO_gf rfl rfl ?_
 refine WO_gt rfl ?_
 refine WO_pick (v := .s (.bool _)) rfl rfl ?_
 refine WO_pick (v := .s (.bool _)) rfl rfl ?_
 refine WO_nil ?_
 refine WP_cond rfl (fun h => nomatch h) (fun _ => ?_)
 refine WP_skip ?_
 refine WP_seq ?_
 refine WP_seq ?_
 refine WP_ops ?_
 refine WO_mv (v := .s (.int _ _)) rfl ?_
 refine WO_mv (v := .s _) rfl ?_
 refine WO_lenS rfl ?_
 refine WO_bin (r := .bool false) rfl rfl (by show some (S.bool ((m : Int) == (s.size : Int))) = _; rw [show (((m : Int) == (s.size : Int)) = false) from by simp; omega]) ?_
 refine WO_nil ?_
 refine WP_cond rfl (fun h => nomatch h) (fun _ => ?_)
 refine WP_skip ?_
 refine WP_seq ?_
 refine WP_ops ?_
 refine WO_mv (v := .s _) rfl ?_
 refine WO_mv (v := .s (.int _ _)) rfl ?_
 refine WO_add (a := (m : Int)) rfl rfl (by omega) ?_
 refine WO_slS (a := 0) (b := (m : Int) + 1) rfl rfl rfl (by omega) ?_
 rw [show ((0 : Int)).toNat = 0 from rfl, show ((m : Int) + 1).toNat = m + 1 by omega]
 refine WO_mv (v := .s _) rfl ?_
 refine WO_bin (r := .str _) rfl rfl (add_str (other_size hm hs hr)) ?_
 refine WO_mv (v := .s _) rfl ?_
 refine WO_nil ?_
 refine WP_seq ?_
 refine WP_seq ?_
 refine WP_ops ?_
 refine WO_mv (v := .s _) rfl ?_
 refine WO_lenS rfl ?_
 refine WO_bin (r := .bool _) rfl rfl rfl ?_
 refine WO_nil ?_
 refine WP_cond rfl (fun h104 => ?_) (fun h104 => ?_)
 ·try simp only [NM] at h104
  refine WP_seq ?_
  refine WP_ops ?_
  refine WO_mv rfl ?_
  refine WO_nil ?_
  refine WP_ret ?_
  refine ⟨_, RS_tmp (v := .s (.bool _)) rfl (RS_nil), ?_⟩
  rfl
 ·try simp only [NM] at h104
  refine WP_skip ?_
  refine WP_seq ?_
  refine WP_ops ?_
  refine WO_mv (v := .s _) rfl ?_
  refine WO_call0 rfl (parse_is3 (more_ends hE hm (by omega))) rfl rfl rfl ?_
  refine WO_mv (v := .tup _) rfl ?_
  refine WO_ext (v := .agg _ _) rfl rfl ?_
  refine WO_ext (v := .s (.int _ _)) rfl rfl ?_
  refine WO_ext (v := .s (.int _ _)) rfl rfl ?_
  refine WO_allocI ?_
  refine WO_stA rfl rfl rfl rfl .here ?_
  refine WO_mv (v := .s (.int _ _)) rfl ?_
  refine WO_mv (v := .s (.int _ _)) rfl ?_
  refine WO_nil ?_
  refine WP_seq ?_
  refine WP_ops ?_
  refine WO_mv (v := .s (.int _ _)) rfl ?_
  refine WO_bin (r := .bool true) rfl rfl (rfl) ?_
  refine WO_mv (v := .s (.bool _)) rfl ?_
  refine WO_gt rfl ?_
  refine WO_mv (v := .s (.int _ _)) rfl ?_
  refine WO_gt rfl ?_
  refine WO_mv (v := .s (.int _ _)) rfl ?_
  refine WO_gt rfl ?_
  refine WO_bin (r := .bool true) rfl rfl (by show some (S.bool (_ == _)) = _; rw [beq_self_eq_true]) ?_
  refine WO_pick (v := .s (.bool _)) rfl rfl ?_
  refine WO_mv (v := .s (.bool _)) rfl ?_
  refine WO_nil ?_
  refine WP_ret ?_
  refine ⟨_, RS_tmp (v := .s (.bool _)) rfl (RS_nil), ?_⟩
  rfl
theorem Places_E3 (s r : ByteArray) (m : Nat) (hs : s.size ≤ 128) (hr : r.size ≤ 140737488355328) (hR : parseR s = (fun _ => 0, (m : Int), 13)) (hE : allR s = .error m) (hm : m < s.size) (Y : Nat → Int) (hC : parseR (s.extract 0 m) = (Y, 0, 2)) : WR AM2 5 [.s (.str s), .s (.str r)] [] (fun v _ _ => v = .s (.bool true)) := by
 refine WR_fn (a := a5) rfl rfl (entryF _) (entry_E (Nat.le_of_ble_eq_true rfl)) (m := 0) rfl ?_
 refine WP_seq ?_
 refine WP_ops ?_
 refine WO_mv rfl ?_
 refine WO_nil ?_
 refine WP_seq ?_
 refine WP_seq ?_
 refine WP_ops ?_
 refine WO_call0 rfl (awake_run) rfl rfl rfl ?_
 refine WO_un (r := .bool _) rfl rfl ?_
 refine WO_nil ?_
 refine WP_cond rfl (fun h => nomatch h) (fun _ => ?_)
 refine WP_skip ?_
 refine WP_seq ?_
 refine WP_seq ?_
 refine WP_ops ?_
 refine WO_mv (v := .s _) rfl ?_
 refine WO_lenS rfl ?_
 refine WO_bin (r := .bool false) rfl rfl (by show some (S.bool (decide ((s.size : Int) > 128))) = _; rw [decide_eq_false (by omega)]) ?_
 refine WO_nil ?_
 refine WP_cond rfl (fun h => nomatch h) (fun _ => ?_)
 refine WP_skip ?_
 refine WP_seq ?_
 refine WP_ops ?_
 refine WO_mv (v := .s _) rfl ?_
 refine WO_call0 rfl (parse_is3 hR) rfl rfl rfl ?_
 refine WO_mv (v := .tup _) rfl ?_
 refine WO_ext (v := .agg _ _) rfl rfl ?_
 refine WO_ext (v := .s (.int _ _)) rfl rfl ?_
 refine WO_ext (v := .s (.int _ _)) rfl rfl ?_
 refine WO_allocI ?_
 refine WO_stA rfl rfl rfl rfl .here ?_
 refine WO_mv (v := .s (.int _ _)) rfl ?_
 refine WO_mv (v := .s (.int _ _)) rfl ?_
 refine WO_nil ?_
 refine WP_seq ?_
 refine WP_seq ?_
 refine WP_ops ?_
 refine WO_mv (v := .s (.int _ _)) rfl ?_
 refine WO_bin (r := .bool false) rfl rfl (rfl) ?_
 refine WO_nil ?_
 refine WP_cond rfl (fun h => nomatch h) (fun _ => ?_)
 refine WP_skip ?_
 refine WP_seq ?_
 refine WP_ops ?_
 refine WO_mv (v := .s _) rfl ?_
 refine WO_mv (v := .s (.int _ _)) rfl ?_
 refine WO_slS (a := 0) (b := (m : Int)) rfl rfl rfl (by omega) ?_
 rw [show ((0 : Int)).toNat = 0 from rfl, Int.toNat_natCast]
 refine WO_call0 rfl (parse_is3 hC) rfl rfl rfl ?_
 refine WO_mv (v := .tup _) rfl ?_
 refine WO_ext (v := .agg _ _) rfl rfl ?_
 refine WO_ext (v := .s (.int _ _)) rfl rfl ?_
 refine WO_ext (v := .s (.int _ _)) rfl rfl ?_
 refine WO_allocI ?_
 refine WO_stA rfl rfl rfl rfl .here ?_
 refine WO_mv (v := .s (.int _ _)) rfl ?_
 refine WO_mv (v := .s (.int _ _)) rfl ?_
 refine WO_nil ?_
 refine WP_seq ?_
 refine WP_seq ?_
 refine WP_ops ?_
 refine WO_mv (v := .s (.int _ _)) rfl ?_
 refine WO_bin (r := .bool false) rfl rfl (rfl) ?_
 refine WO_mv (v := .s (.bool _)) rfl ?_
 refine WO_gf rfl rfl ?_
 refine WO_gf rfl rfl ?_
 refine WO_gf rfl rfl ?_
 refine WO_pick (v := .s (.bool _)) rfl rfl ?_
 refine WO_mv (v := .s (.bool _)) rfl ?_
 refine WO_gt rfl ?_
 refine WO_mv (v := .s (.int _ _)) rfl ?_
 refine WO_gt rfl ?_
 refine WO_mv (v := .s _) rfl ?_
 refine WO_gt rfl ?_
 refine WO_lenS rfl ?_
 refine WO_gt rfl ?_
 refine WO_bin (r := .bool true) rfl rfl (by show some (S.bool (decide ((m : Int) < (s.size : Int)))) = _; rw [decide_eq_true (by omega)]) ?_
 refine WO_gt rfl ?_
 refine WO_mv (v := .s (.bool _)) rfl ?_
 refine WO_gt rfl ?_
 refine WO_mv (v := .s (.int _ _)) rfl ?_
 refine WO_gt rfl ?_
 refine WO_bin (r := .bool true) rfl rfl (rfl) ?_
 refine WO_gt rfl ?_
 refine WO_pick (v := .s (.bool _)) rfl rfl ?_
 refine WO_gt rfl ?_
 refine WO_mv (v := .s (.bool _)) rfl ?_
 refine WO_gt rfl ?_
 refine WO_mv (v := .s (.int _ _)) rfl ?_
 refine WO_gt rfl ?_
 refine WO_bin (r := .bool true) rfl rfl (rfl) ?_
 refine WO_gt rfl ?_
 refine WO_pick (v := .s (.bool _)) rfl rfl ?_
 refine WO_gt rfl ?_
 refine WO_mv (v := .s (.bool _)) rfl ?_
 refine WO_gt rfl ?_
 refine WO_mv (v := .s (.int _ _)) rfl ?_
 refine WO_gt rfl ?_
 refine WO_bin (r := .bool false) rfl rfl (rfl) ?_
 refine WO_gt rfl ?_
 refine WO_pick (v := .s (.bool _)) rfl rfl ?_
 refine WO_pick (v := .s (.bool _)) rfl rfl ?_
 refine WO_nil ?_
 refine WP_cond rfl (fun h => nomatch h) (fun _ => ?_)
 refine WP_skip ?_
 refine WP_seq ?_
 refine WP_seq ?_
 refine WP_ops ?_
 refine WO_mv (v := .s (.int _ _)) rfl ?_
 refine WO_mv (v := .s _) rfl ?_
 refine WO_lenS rfl ?_
 refine WO_bin (r := .bool false) rfl rfl (by show some (S.bool ((m : Int) == (s.size : Int))) = _; rw [show (((m : Int) == (s.size : Int)) = false) from by simp; omega]) ?_
 refine WO_nil ?_
 refine WP_cond rfl (fun h => nomatch h) (fun _ => ?_)
 refine WP_skip ?_
 refine WP_seq ?_
 refine WP_ops ?_
 refine WO_mv (v := .s _) rfl ?_
 refine WO_mv (v := .s (.int _ _)) rfl ?_
 refine WO_add (a := (m : Int)) rfl rfl (by omega) ?_
 refine WO_slS (a := 0) (b := (m : Int) + 1) rfl rfl rfl (by omega) ?_
 rw [show ((0 : Int)).toNat = 0 from rfl, show ((m : Int) + 1).toNat = m + 1 by omega]
 refine WO_mv (v := .s _) rfl ?_
 refine WO_bin (r := .str _) rfl rfl (add_str (other_size hm hs hr)) ?_
 refine WO_mv (v := .s _) rfl ?_
 refine WO_nil ?_
 refine WP_seq ?_
 refine WP_seq ?_
 refine WP_ops ?_
 refine WO_mv (v := .s _) rfl ?_
 refine WO_lenS rfl ?_
 refine WO_bin (r := .bool _) rfl rfl rfl ?_
 refine WO_nil ?_
 refine WP_cond rfl (fun h104 => ?_) (fun h104 => ?_)
 ·try simp only [NM] at h104
  refine WP_seq ?_
  refine WP_ops ?_
  refine WO_mv rfl ?_
  refine WO_nil ?_
  refine WP_ret ?_
  refine ⟨_, RS_tmp (v := .s (.bool _)) rfl (RS_nil), ?_⟩
  rfl
 ·try simp only [NM] at h104
  refine WP_skip ?_
  refine WP_seq ?_
  refine WP_ops ?_
  refine WO_mv (v := .s _) rfl ?_
  refine WO_call0 rfl (parse_is3 (more_ends hE hm (by omega))) rfl rfl rfl ?_
  refine WO_mv (v := .tup _) rfl ?_
  refine WO_ext (v := .agg _ _) rfl rfl ?_
  refine WO_ext (v := .s (.int _ _)) rfl rfl ?_
  refine WO_ext (v := .s (.int _ _)) rfl rfl ?_
  refine WO_allocI ?_
  refine WO_stA rfl rfl rfl rfl .here ?_
  refine WO_mv (v := .s (.int _ _)) rfl ?_
  refine WO_mv (v := .s (.int _ _)) rfl ?_
  refine WO_nil ?_
  refine WP_seq ?_
  refine WP_ops ?_
  refine WO_mv (v := .s (.int _ _)) rfl ?_
  refine WO_bin (r := .bool true) rfl rfl (rfl) ?_
  refine WO_mv (v := .s (.bool _)) rfl ?_
  refine WO_gt rfl ?_
  refine WO_mv (v := .s (.int _ _)) rfl ?_
  refine WO_gt rfl ?_
  refine WO_mv (v := .s (.int _ _)) rfl ?_
  refine WO_gt rfl ?_
  refine WO_bin (r := .bool true) rfl rfl (by show some (S.bool (_ == _)) = _; rw [beq_self_eq_true]) ?_
  refine WO_pick (v := .s (.bool _)) rfl rfl ?_
  refine WO_mv (v := .s (.bool _)) rfl ?_
  refine WO_nil ?_
  refine WP_ret ?_
  refine ⟨_, RS_tmp (v := .s (.bool _)) rfl (RS_nil), ?_⟩
  rfl
theorem Places_run (s r : ByteArray) (hr : r.size ≤ 140737488355328) : RF AM2 5 [.s (.str s), .s (.str r)] (.s (.bool true)) := by
  rcases parse_ends s with ⟨R, hR, hA, hRR⟩ | ⟨k, e, hR, hk, he⟩
  · by_cases hs : 128 < s.size
    · have : parseR s = (fun _ => 0, 0, 3) := if_pos hs
      rw [this] at hR
      exact absurd (Prod.mk.inj (Prod.mk.inj hR).2).2 (by decide)
    · exact RF_of (Places_O s r hs R 0 hR (.inl rfl))
  · rcases he with ⟨rfl, hs, hE⟩ | ⟨rfl, rfl, hs⟩ | ⟨rfl, rfl, hs⟩
    · rcases cut_ends hE hs with ⟨Y, hC⟩ | ⟨hm, Y, e, hC, rfl | rfl⟩
      · rcases Nat.lt_or_ge k s.size with hm | hm
        · exact RF_of (Places_E1a s r k hs hr hR hE hm Y hC)
        · exact RF_of (Places_E1b s r k hs hr hR hE (by omega) Y hC)
      · exact RF_of (Places_E2 s r k hs hr hR hE hm Y hC)
      · exact RF_of (Places_E3 s r k hs hr hR hE hm Y hC)
    · exact RF_of (Places_O s r (by omega) _ 2 hR (.inr rfl))
    · exact RF_of (Places_L s r hs hR)
end Go.Proofs.YtlaogmemhephnaaDoor
