/- board.Start is what the machine is told of it. -/
import Derived.Test.YtjldefmcnppdoaaStartB
import Derived.Test.YtjldefmcnppdoaaIdxByte
namespace Go.Proofs.Ytjldefmcnppdoaa
open Go Go.Am
theorem idx_ok {args : List V} {σ : Heap} {v : V} {σ' : Heap} (h : idxPrim args σ = some (v, σ')) {ι : Inj} {W : World} {av : List Value} (hR : RelW ι σ W) (hv : VRL ι args av) :
    Calls Try.prog 85 av.toArray W fun e W' => ∃ ι' v', e = .returned v' ∧ VR ι' v v' ∧ Post ι σ W ι' σ' W' := by
  unfold idxPrim at h
  split at h
  · rename_i s c
    injection h with h
    injection h with h1 h2
    subst h1; subst h2
    simp only [VRL] at hv
    obtain ⟨v1, r1, rfl, hv1, v2, r2, rfl, hv2, rfl⟩ := hv
    simp only [VR, S.val] at hv1 hv2
    subst hv1; subst hv2
    refine (Try.strings_IndexByte s c W).mono ?_
    rintro e w' ⟨rfl, rfl⟩
    exact ⟨ι, _, rfl, by simp [VR, S.val], (QPost.refl hR).post⟩
  · cases h
theorem prims0 : PrimsOK Try.prog AM0 := by
  intro f pf hpf args σ v σ' h
  have hb : (bif Nat.beq f 85 then some idxPrim else none) = some pf := hpf
  cases hf : Nat.beq f 85 with
  | false => rw [hf] at hb; cases hb
  | true =>
    rw [hf] at hb
    injection hb with hb
    subst hb
    have := Nat.eq_of_beq_eq_true hf
    subst this
    exact ⟨⟨_, Try.func85, by kernel_rfl, by decide⟩, fun ι W av hR _ hv => idx_ok h hR hv⟩
theorem fns0 : FnsOK Try.prog AM0 := fnsOK
theorem mixed0 : Try.prog.follows .mixedOrders = true := by kernel_rfl
theorem run0 : RunOK Try.prog (Run AM0) := run_ok fns0 prims0 mixed0

/-- Behind the files below j. -/
def J0 (W0 : World) (k : Nat) (a : Act) (W : World) : Prop := ∃ (j : Nat) (P : Nat → Int) (f : FE) (n : Nat) (ι : Inj) (σ : Heap), k + j = 8 ∧ (∀ i, i < 8 → P i = backK i) ∧ f 0 = .ptr 0 0 133 ∧ f 1 = .ptr 1 0 133 ∧ f 7 = .agg 8 (ia P) ∧ f 8 = .s (.int .i64 (j : Int)) ∧
  St 35 W0 f n [(1, .sc .var 133 (ia (curF j fun _ => false))), (0, .sc .var 133 (ia fun _ => 0))] a W ι σ

/-- In file j, some ranks laid. -/
def J1 (W0 : World) (j : Nat) (P : Nat → Int) (k : Nat) (a : Act) (W : World) : Prop := ∃ (S : Nat → Bool) (r bm ck bi : Nat) (seen : Array Nat) (es : Array MapEntry) (f : FE) (n : Nat) (ι : Inj) (σ : Heap),
  (Go.leftOf es seen).size = k ∧ Ent j es.toList ∧ (∀ k : Nat, (k = 0 ∨ k = 1 ∨ k = 6 ∨ k = 7) → ∃ e ∈ es.toList, e.key = .int .i64 (k : Int)) ∧ Stamps es.toList ck ∧ (∀ e ∈ es.toList, seen.contains e.born = true → ∀ k : Nat, e.key = .int .i64 (k : Int) → S k = true) ∧
  ι bi = some ⟨r, 0, 0, 0, 0⟩ ∧ Held W0 r (.mapIter (some bm) ck seen ck) ι σ W ∧ Held W0 bm (.map es ck) ι σ W ∧ f 0 = .ptr 0 0 133 ∧ f 1 = .ptr 1 0 133 ∧ f 7 = .agg 8 (ia P) ∧ f 8 = .s (.int .i64 (j : Int)) ∧ f 2 = .s (.int .i64 (j : Int)) ∧ f 20 = .ptr bi 0 0 ∧
  St 35 W0 f n [(1, .sc .var 133 (ia (curF j S))), (0, .sc .var 133 (ia fun _ => 0))] a W ι σ

theorem rel_none0 (W : World) : RelW noInj0 [] W := by
  constructor
  · intro b p h; cases h
  · intro b p x h; cases h
  · intro b b' p p' h; cases h

theorem start_calls (W : World) : Calls Try.prog 77 #[] W fun e W' => ∃ v', e = .returned v' ∧ VR noInj0 (.agg 133 (ia startF)) v' ∧ ∃ ι' σ', Post noInj0 [] W ι' σ' W' := by
  refine calls_of_wp Try.func77 rfl ?_
  have hs0 : St 35 W (entryF []) 0 [] { tmps := #[] ++ Array.replicate (Try.f77.ntmps - 0) Go.undef, defers := [] } W noInj0 [] := by
    refine ⟨?_, ⟨rfl, trivial⟩, (QPost.refl (rel_none0 W)).post, rfl⟩
    have e : E 35 (entryF []) = List.replicate 35 .undef := rfl
    rw [e]
    exact VRL.undefs 35
  refine wp_seq (hs0.wp fns0 prims0 mixed0 (by kernel_rfl) (st_r0 _) fun x f n L ι σ a W1 ho hs _ => ?_)
  cases x with
  | exit j => exact ho.elim
  | ret => exact ho.elim
  | normal =>
  obtain ⟨k0, rfl, rfl⟩ := ho
  refine wp_seq (hs.wp fns0 prims0 mixed0 (by kernel_rfl) (st_r1 _ k0) fun x f n L ι σ a W1 ho hs _ => ?_)
  cases x with
  | exit j => exact ho.elim
  | ret => exact ho.elim
  | normal =>
  obtain ⟨k0, k1, rfl⟩ := ho
  refine wp_seq (wp_seq (hs.wp fns0 prims0 mixed0 (by kernel_rfl) (st_r2 _ _ _ k0 k1) fun x f n L ι σ a W1 ho hs _ => ?_))
  cases x with
  | exit j => exact ho.elim
  | ret => exact ho.elim
  | normal =>
  obtain ⟨P, hP, k0, k1, k7, k8, rfl⟩ := ho
  refine wp_block (wp_loop_by (J0 W) (fun k a W1 hJ => ?_) (k := 8) ⟨0, P, f, n, ι, σ, by omega, hP, k0, k1, k7, k8, by rw [cur0]; exact hs⟩)
  obtain ⟨j, P, f, n, ι, σ, hkj, hP, k0, k1, k7, k8, hs⟩ := hJ
  refine wp_seq (hs.wp fns0 prims0 mixed0 (by kernel_rfl) (st_r3 _ _ _ _ _ k0 k1 k7 k8) fun x f n L ι σ a W1 ho hs _ => ?_)
  cases x with
  | exit j => exact ho.elim
  | ret => exact ho.elim
  | normal =>
  obtain ⟨k0, k1, k7, k8, k9, rfl⟩ := ho
  have r9 := hs.getS (t := 9) rfl k9
  by_cases hj : (j : Int) < 8
  case neg =>
    rw [decide_eq_false hj] at r9
    refine wp_seq (wp_cond r9 ?_)
    refine wp_exit ?_
    have e8 : j = 8 := by omega
    subst e8
    simp only [Exit.then, Exit.inBlock, if_true]
    refine wp_seq (hs.wp fns0 prims0 mixed0 (by kernel_rfl) (st_r10 _ _ _ k0 k1) fun x f n L ι σ a W1 ho hs _ => ?_)
    cases x with
    | exit j => exact ho.elim
    | ret => exact ho.elim
    | normal =>
    obtain ⟨k0, k1, rfl⟩ := ho
    rw [cur_end] at hs
    refine wp_seq (hs.wp fns0 prims0 mixed0 (by kernel_rfl) (st_r11 _ _ _ k0 k1) fun x f n L ι σ a W1 ho hs _ => ?_)
    cases x with
    | exit j => exact ho.elim
    | ret => exact ho.elim
    | normal =>
    obtain ⟨k0, rfl⟩ := ho
    refine wp_ret ?_
    have hv : RS 35 f [(1, Blk.sc .var 133 (ia startF)), (0, Blk.sc .var 133 (ia (ovA (fun _ => 0) 0 133 startF)))] [.cell 0 true 133] [.agg 133 (ia (ovA (fun _ => 0) 0 133 startF))] := RS_cell k0 rfl (.tail _ (.head _)) RS_nil
    have hr : resOf (E 35 f) σ [.cell 0 true 133] = some (.agg 133 (ia (ovA (fun _ => 0) 0 133 startF))) := by
      unfold resOf
      rw [resL_RS hs.hp hv]
    obtain ⟨v, hv1, hv2⟩ := results_sound (fn := Try.f77) hs.env hs.post.rel (by kernel_rfl) hr
    refine ⟨hs.defers, v, hv2, v, rfl, ?_, _, _, hs.post⟩
    rw [show ovA (fun _ => 0) 0 133 startF = startF from ovA_whole fun i hi => by
      rw [← cur_end]
      unfold ov
      rw [show Nat.beq i 129 = false from Bool.eq_false_iff.2 fun e => by have := Nat.eq_of_beq_eq_true e; omega, cond_false]
      unfold curF
      rw [if_neg (by omega), emptyF_hi i hi]] at hv1
    simpa only [VR] using hv1
  rw [decide_eq_true hj] at r9
  have hj8 : j < 8 := by omega
  refine wp_seq (wp_cond r9 (wp_skip ?_))
  refine wp_seq (wp_block ?_)
  refine wp_seq (hs.wp fns0 prims0 mixed0 (by kernel_rfl) (st_r4 _ _ _ hj8 _ (hP j hj8) _ _ k0 k1 k7 k8) fun x f n L ι σ a W1 ho hs _ => ?_)
  cases x with
  | exit j => exact ho.elim
  | ret => exact ho.elim
  | normal =>
  obtain ⟨k0, k1, k7, k8, k2, k3, rfl⟩ := ho
  refine wp_seq (wp_region_list ?_)
  refine hs.listN 12 run0 (by kernel_rfl) (st_r5 _ _ _ _ _ _ k0 k1 k7 k8 k2 k3) fun f n L ι σ a W1 ho hs _ => ?_
  obtain ⟨k0, k1, k7, k8, k2, k3, k19, rfl⟩ := ho
  obtain ⟨bm, es, ck, hm19, hMR, hst, hbm, hs⟩ := hs.mapOut rfl .here (t := 19) (by decide) k19
  obtain ⟨hEnt, hAll⟩ := ent_of hj8 hMR
  refine hand_op rfl (exec_range (a := a) (x := .tmp 19) rfl (kt := 3) (et := 25) (by kernel_rfl) hm19 hbm.obj) ?_
  obtain ⟨ι2, hι2, hp2, hit, hs2⟩ := hs.iter (.mapIter (some bm) ck #[] ck)
  have hbm2 := hbm.go hs.dom hp2
  have hs3 := (hs2.sub (.cons _ (List.Sublist.refl _))).set 20 (x := .ptr n 0 0) (v := .pointer (some ⟨W1.heap.size, 0, none⟩)) ⟨_, hι2, Nat.le_refl _, rfl⟩
  show Code.wp _ (Code.block 2 (Code.loop _)) _ _ _
  refine wp_block (wp_loop_by (J1 W j P) (fun k' a' W' hJ => ?_) (k := (Go.leftOf es #[]).size) ⟨fun _ => false, _, bm, ck, n, #[], es, upd f 20 (.ptr n 0 0), _, ι2, _, rfl, hEnt, hAll, hst, by simp, hι2, hit, hbm2, k0, k1, k7, k8, k2, rfl, hs3⟩)
  clear hs hs2 hs3 hbm hbm2 hit hι2 hp2 hm19 hMR hst hAll hEnt k0 k1 k7 k8 k2 k3 k19
  obtain ⟨D, r, bm, ck, bi, seen, es, f, n, ι, σ, hk', hEnt, hAll, hst, hS, hι, hit, hbm, k0, k1, k7, k8, k2, k20, hs⟩ := hJ
  refine wp_seq (wp_region_list ?_)
  have r20 := hs.getP (t := 20) rfl k20 hι
  rcases hs.next (P := Try.prog) hit hbm hst (o := { dst := some 21, op := Op.next (Operand.tmp 20) false, type := 0, pos := "board.go:23", after := #[], guard := none }) (x := .tmp 20) rfl r20 with ⟨h0, h1⟩ | ⟨e, he, W2, h1, hit, hbm, hgo⟩
  · refine hand_op rfl h1 ?_
    have hs4 := hs.set 21 (x := .tup [.s (.bool false)]) (v := .tuple #[.bool false]) (by simp [VR, VRL, S.val])
    refine hs4.listN 1 run0 (by kernel_rfl) (is := [⟨some 22, none, .p (.ext (.t 21) 0)⟩]) (K := fun f n L => f 0 = .ptr 0 0 133 ∧ f 1 = .ptr 1 0 133 ∧ f 7 = .agg 8 (ia P) ∧ f 8 = .s (.int .i64 (j : Int)) ∧ f 22 = .s (.bool false) ∧ L = [(1, .sc .var 133 (ia (curF j D))), (0, .sc .var 133 (ia fun _ => 0))]) ?_ fun f n L ι σ a W1 ho hs _ => ?_
    · refine WO_ext (v := .s (.bool _)) rfl rfl ?_
      refine WO_nil ?_
      exact ⟨k0, k1, k7, k8, rfl, rfl⟩
    obtain ⟨k0, k1, k7, k8, k22, rfl⟩ := ho
    have r22 := hs.getS (t := 22) rfl k22
    show Code.wp _ (Code.seq _ _) _ _ _
    refine wp_seq (wp_cond r22 (wp_exit ?_))
    simp only [Exit.then, Exit.inBlock, if_true]
    have hD : ∀ k : Nat, (k = 0 ∨ k = 1 ∨ k = 6 ∨ k = 7) → D k = true := fun k hk => by
      obtain ⟨e, he, hke⟩ := hAll k hk
      exact hS e he (left_none h0 he) k hke
    rw [cur_next j D (hD 0 (by simp)) (hD 1 (by simp)) (hD 6 (by simp)) (hD 7 (by simp))] at hs
    refine hs.wp fns0 prims0 mixed0 (by kernel_rfl) (st_r9 _ _ _ hj8 _ _ k0 k1 k7 k8) fun x f n L ι σ a W1 ho hs _ => ?_
    cases x with
    | exit j => exact ho.elim
    | ret => exact ho.elim
    | normal =>
    obtain ⟨k0, k1, k7, k8, rfl⟩ := ho
    exact ⟨k - 1, by omega, j + 1, P, f, n, ι, σ, by omega, hP, k0, k1, k7, k8, hs⟩
  · have hm := (left_iff.1 he).1
    obtain ⟨c, Q, hc, hkey, hQ, hval⟩ := hEnt e hm
    have hc8 : c < 8 := by omega
    refine hand_op rfl h1 ?_
    have hs4 := hgo (a'.put (some 21) (.tuple #[.bool true, e.key, e.val])) (upd f 21 (.tup [.s (.bool true), .s (.int .i64 (c : Int)), .agg 2 (ia Q)])) (hs.put (some 21) ⟨[.bool true, e.key, e.val], rfl, _, _, rfl, rfl, _, _, rfl, hkey, _, _, rfl, hval _, rfl⟩) rfl
    refine hs4.listN 1 run0 (by kernel_rfl) (is := [⟨some 22, none, .p (.ext (.t 21) 0)⟩]) (K := fun f n L => f 0 = .ptr 0 0 133 ∧ f 1 = .ptr 1 0 133 ∧ f 7 = .agg 8 (ia P) ∧ f 8 = .s (.int .i64 (j : Int)) ∧ f 2 = .s (.int .i64 (j : Int)) ∧ f 20 = .ptr bi 0 0 ∧ f 22 = .s (.bool true) ∧ L = [(1, .sc .var 133 (ia (curF j D))), (0, .sc .var 133 (ia fun _ => 0))]) ?_ fun f n L ι1 σ1 a W1 ho hs hp => ?_
    · refine WO_ext (v := .s (.bool _)) rfl rfl ?_
      refine WO_nil ?_
      exact ⟨k0, k1, k7, k8, k2, k20, rfl, rfl⟩
    obtain ⟨k0, k1, k7, k8, k2, k20, k22, rfl⟩ := ho
    have hι := hp.ext _ _ hι
    have hit := hit.go hs4.dom hp
    have hbm := hbm.go hs4.dom hp
    have r22 := hs.getS (t := 22) rfl k22
    show Code.wp _ (Code.seq _ _) _ _ _
    refine wp_seq (wp_cond r22 (wp_skip ?_))
    refine wp_block (wp_seq (wp_region_list ?_))
    have r20 := hs.getP (t := 20) rfl k20 hι
    refine hand_op rfl (exec_entry hit hbm hst hm (x := .tmp 20) rfl r20) ?_
    have hs5 := hs.set 23 (x := .tup [.s (.int .i64 (c : Int)), .agg 2 (ia Q)]) (v := .tuple #[e.key, e.val]) ⟨[e.key, e.val], rfl, _, _, rfl, hkey, _, _, rfl, hval _, rfl⟩
    refine hs5.listN 5 run0 (by kernel_rfl) (st_r7 (curF j D) P j bi c Q (upd f 23 (.tup [.s (.int .i64 (c : Int)), .agg 2 (ia Q)])) n k0 k1 k7 k8 k2 k20 rfl) fun f n L ι2 σ2 a W3 ho hs hp => ?_
    obtain ⟨k0, k1, k7, k8, k2, k20, k4, k5, rfl⟩ := ho
    have hι := hp.ext _ _ hι
    have hit := hit.go hs5.dom hp
    have hbm := hbm.go hs5.dom hp
    show Code.wp _ (Code.region _ _ _) _ _ _
    refine hs.wp fns0 prims0 mixed0 (by kernel_rfl) (st_r8 _ _ _ _ _ _ _ hj8 hc8 _ _ k0 k1 k7 k8 k2 k20 k4 k5) fun x f n L ι3 σ3 a W4 ho hs' hp => ?_
    cases x with
    | exit j => exact ho.elim
    | ret => exact ho.elim
    | normal =>
    obtain ⟨k0, k1, k7, k8, k2, k20, rfl⟩ := ho
    have hs6 := hs'.sub (.cons _ (List.Sublist.refl _))
    rw [cur_step j c D _ hj8 hc8 (fun i hi => by
      rw [← hQ i hi]
      have : i = 0 ∨ i = 1 := by omega
      rcases this with rfl | rfl <;> rfl)] at hs6
    refine ⟨_, by rw [← hk']; exact left_push he, _, r, bm, ck, bi, seen.push e.born, es, f, n, ι3, σ3, rfl, hEnt, hAll, hst, ?_, hp.ext _ _ hι, hit.go hs.dom hp, hbm.go hs.dom hp, k0, k1, k7, k8, k2, k20, hs6⟩
    intro e' he' hc' k hk
    rw [Array.contains_push] at hc'
    simp only [Bool.or_eq_true] at hc'
    rcases hc' with hc' | hc'
    · rw [hS e' he' hc' k hk]; rfl
    · have hb : e'.born = e.born := by simpa using hc'
      have := same_born hst he' hm hb
      subst this
      rw [hkey] at hk
      injection hk with _ hk
      have : c = k := by omega
      subst this
      simp
/-- The prim's word. -/
theorem start_ok {args : List V} {σ : Heap} {v : V} {σ' : Heap} (h : startPrim args σ = some (v, σ')) {ι : Inj} {W : World} {av : List Value} (hR : RelW ι σ W) (hv : VRL ι args av) :
    Calls Try.prog 77 av.toArray W fun e W' => ∃ ι' v', e = .returned v' ∧ VR ι' v v' ∧ Post ι σ W ι' σ' W' := by
  unfold startPrim at h
  split at h
  · injection h with h
    injection h with h1 h2
    subst h1; subst h2
    simp only [VRL] at hv
    subst hv
    refine (start_calls W).mono ?_
    rintro e W' ⟨v', rfl, hv', ι', σ', hp⟩
    have hf : ∀ c, c < W.heap.size → W'.heap[c]? = W.heap[c]? := fun c hc => hp.frame c hc fun b p hb _ => by cases hb
    exact ⟨ι, v', rfl, by simpa only [VR] using hv', (QPost.post ⟨hp.same, .refl ι, hR.other hp.same.size fun b p hb _ => hf _ (hR.lt b p hb), ⟨[], by simp⟩, hf, fun b p hb hn => by rw [hb] at hn; cases hn⟩)⟩
  · cases h
theorem primsOK : PrimsOK Try.prog AM := by
  intro f pf hpf args σ v σ' h
  have hb : primF f = some pf := hpf
  unfold primF at hb
  cases hf : Nat.beq f 85 with
  | false =>
    rw [hf] at hb
    cases hf2 : Nat.beq f 77 with
    | false => rw [hf2] at hb; cases hb
    | true =>
      rw [hf2] at hb
      injection hb with hb
      subst hb
      have := Nat.eq_of_beq_eq_true hf2
      subst this
      exact ⟨⟨_, Try.func77, by kernel_rfl, by decide⟩, fun ι W av hR _ hv => start_ok h hR hv⟩
  | true =>
    rw [hf] at hb
    injection hb with hb
    subst hb
    have := Nat.eq_of_beq_eq_true hf
    subst this
    exact ⟨⟨_, Try.func85, by kernel_rfl, by decide⟩, fun ι W av hR _ hv => idx_ok h hR hv⟩
theorem runOK : RunOK Try.prog (Run AM) := run_ok fnsOK primsOK (by kernel_rfl)
end Go.Proofs.Ytjldefmcnppdoaa
