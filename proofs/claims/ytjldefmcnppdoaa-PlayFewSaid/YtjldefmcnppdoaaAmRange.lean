/- The machine's code beside steps that are done by hand on the world: a map's iterator among them. -/
import Derived.Test.YtjldefmcnppdoaaAmWpM
import Derived.Maps.RangeRun
namespace Go.Am
open Go
open Go.ChangeMaps (setBlock)

abbrev noInj0 : Inj := fun _ => none

/-- The machine's part of a state, since the world W0. -/
structure St (N : Nat) (W0 : World) (f : FE) (n : Nat) (L : HA) (a : Act) (W : World) (ι : Inj) (σ : Heap) : Prop where
  env : EnvR ι (E N f) a.tmps
  hp : Hp σ n L
  post : Post noInj0 [] W0 ι σ W
  defers : a.defers = []

theorem St.dom {N W0 f n L a W ι σ} (h : St N W0 f n L a W ι σ) : Dom ι σ := h.post.dom fun _ _ h => by cases h

/-- A block of the world that the machine does not hold. -/
structure Held (W0 : World) (c : Nat) (o : Obj) (ι : Inj) (σ : Heap) (W : World) : Prop where
  new : W0.heap.size ≤ c
  lt : c < W.heap.size
  obj : W.heap[c]? = some o
  apart : ∀ b p, ι b = some p → liveb σ b → p.c ≠ c

theorem Held.go {W0 : World} {c : Nat} {o : Obj} {ι ι' : Inj} {σ σ' : Heap} {W W' : World} (h : Held W0 c o ι σ W) (hD : Dom ι σ) (hp : Post ι σ W ι' σ' W') : Held W0 c o ι' σ' W' where
  new := h.new
  lt := Nat.lt_of_lt_of_le h.lt hp.same.size
  obj := by rw [hp.frame c h.lt fun b p hb hm => h.apart b p hb hm.live]; exact h.obj
  apart := by
    intro b p hb hl
    cases hn : ι b with
    | some q =>
      have e := hp.ext b q hn
      rw [hb] at e
      injection e with e
      subst e
      exact h.apart b p hn (hp.lives b (hD b p hn) hl)
    | none =>
      rcases (hp.fresh b p hb hn).2 with hf | ⟨b0, p0, h0, m0, e0⟩
      · have := h.lt; omega
      · rw [← e0]; exact h.apart b0 p0 h0 m0.live

section
variable {P : Program} {A : AP} {N n : Nat} {f : FE} {L : HA} {W0 W : World} {a : Act} {ι : Inj} {σ : Heap}

theorem St.trans (hs : St N W0 f n L a W ι σ) {ι' σ' W' a' f' n' L'} (hp : Post ι σ W ι' σ' W') (he : EnvR ι' (E N f') a'.tmps) (hh : Hp σ' n' L') (hd : a'.defers = a.defers) : St N W0 f' n' L' a' W' ι' σ' :=
  ⟨he, hh, Post.trans (fun _ _ h => by cases h) hs.post hp, hd.trans hs.defers⟩

/-- The machine's code. -/
theorem St.wp (hA : FnsOK P A) (hprim : PrimsOK P A) (hm : P.follows .mixedOrders = true) {c : Code} {ac : AC} (hc : compC P c = some ac) {K : KN} {X : Nat → KN} {R : KN} (h : WP A N ac f n L K X R) (hs : St N W0 f n L a W ι σ) {Q : Exit → Act → World → Prop}
    (hQ : ∀ x f' n' L' ι' σ' a' W', outK x f' n' L' K X R → St N W0 f' n' L' a' W' ι' σ' → Post ι σ W ι' σ' W' → Q x.to a' W') : c.wp P Q a W := by
  obtain ⟨x, f', σ', n', L', h1, h2, h3⟩ := h σ hs.hp
  obtain ⟨k, hk⟩ := Exec_to h1
  exact exec_sound (runF_ok hA hprim hm k) hm c ac hc k ι σ W _ a x _ σ' hs.env hs.post.rel hs.dom hk Q fun a' W' ι' hE hP hd => hQ x f' n' L' ι' σ' a' W' h3 (hs.trans hP hE h2 hd) hP

/-- Operations in a row, the first of them. -/
theorem seq_app {run : Runner} (hrun : RunOK P run) {ops : Array Oper} {Q : Exit → Act → World → Prop} {l2 : List Oper} : ∀ {l : List Oper} {is : List I} {ι : Inj} {σ : Heap} {W : World} {e e' : Env} {a : Act} {σ' : Heap},
    compL P ops.toList l = some is → EnvR ι e a.tmps → RelW ι σ W → Dom ι σ → opsV run is e σ = some (e', σ') →
    (∀ a' W' ι', EnvR ι' e' a'.tmps → Post ι σ W ι' σ' W' → a'.defers = a.defers → wpList P ops Q l2 a' W') → wpList P ops Q (l ++ l2) a W
  | [], is, ι, σ, W, e, e', a, σ', hc, hE, hR, hD, hv, hQ => by
    simp [compL] at hc
    subst hc
    simp only [opsV, Option.some.injEq, Prod.mk.injEq] at hv
    obtain ⟨rfl, rfl⟩ := hv
    exact hQ a W ι hE (QPost.refl hR).post rfl
  | o :: l, is, ι, σ, W, e, e', a, σ', hc, hE, hR, hD, hv, hQ => by
    unfold compL at hc
    split at hc
    · rename_i i r h1 h2
      injection hc with hc
      subst hc
      simp only [opsV, Option.bind_eq_some_iff] at hv
      obtain ⟨⟨e1, σ1⟩, hs, hv⟩ := hv
      refine wpList_step (fun K hK => ?_)
      refine step_eff hrun h1 hE hR hD hs (fun a1 W1 ι1 hE1 hp1 hd1 => hK a1 W1 ?_)
      exact seq_app hrun h2 hE1 hp1.rel (hp1.dom hD) hv (fun a2 W2 ι2 hE2 hp2 hd2 => hQ a2 W2 ι2 hE2 (hp1.trans hD hp2) (hd2.trans hd1))
    · simp at hc

theorem St.list (hrun : RunOK P (Run A)) {ops : Array Oper} {l1 l2 : List Oper} {is : List I} (hc : compL P ops.toList l1 = some is) {K : KN} (h : WO A N is f n L K) (hs : St N W0 f n L a W ι σ) {Q : Exit → Act → World → Prop}
    (hQ : ∀ f' n' L' ι' σ' a' W', K f' n' L' → St N W0 f' n' L' a' W' ι' σ' → Post ι σ W ι' σ' W' → wpList P ops Q l2 a' W') : wpList P ops Q (l1 ++ l2) a W := by
  obtain ⟨f', σ', n', L', h1, h2, h3⟩ := h σ hs.hp
  exact seq_app hrun hc hs.env hs.post.rel hs.dom h1 fun a' W' ι' hE hP hd => hQ f' n' L' ι' σ' a' W' h3 (hs.trans hP hE h2 hd) hP

theorem St.listN (k : Nat) (hrun : RunOK P (Run A)) {ops : Array Oper} {l : List Oper} {is : List I} (hc : compL P ops.toList (l.take k) = some is) {K : KN} (h : WO A N is f n L K) (hs : St N W0 f n L a W ι σ) {Q : Exit → Act → World → Prop}
    (hQ : ∀ f' n' L' ι' σ' a' W', K f' n' L' → St N W0 f' n' L' a' W' ι' σ' → Post ι σ W ι' σ' W' → wpList P ops Q (l.drop k) a' W') : wpList P ops Q l a W := by
  have := hs.list hrun hc h (Q := Q) (l2 := l.drop k) hQ
  rwa [List.take_append_drop] at this

theorem hand_op {ops : Array Oper} {o : Oper} {rest : List Oper} {Q : Exit → Act → World → Prop} (hg : o.guard = none) {v : Value} {W' : World} (hx : (execOp a.eval o).run P W = .ok (.value v) W') (h : wpList P ops Q rest (a.put o.dst v) W') : wpList P ops Q (o :: rest) a W :=
  wpList_plain hg fun K hK => by
    unfold Oper.wp
    rw [hx]
    exact hK _ _ h

theorem RelW.other {W' : World} (h : RelW ι σ W) (hsz : W.heap.size ≤ W'.heap.size) (hk : ∀ b p, ι b = some p → liveb σ b → W'.heap[p.c]? = W.heap[p.c]?) : RelW ι σ W' where
  lt := fun b p hb => Nat.lt_of_lt_of_le (h.lt b p hb) hsz
  blk := fun b p x hb hx => by
    have h1 := h.blk b p x hb hx
    cases x with
    | dead => trivial
    | sc m n g => exact h1.keep (.refl ι) (hk b p hb ⟨_, hx, rfl⟩)
    | vs m l => exact h1.keep (.refl ι) (hk b p hb ⟨_, hx, rfl⟩)
    | mp m l => exact h1.keep (.refl ι) (hk b p hb ⟨_, hx, rfl⟩)
  sep := h.sep

/-- A step by hand: it leaves the machine's blocks and all that was there at the start. -/
theorem St.hand {W' : World} {a' : Act} {f' : FE} (hs : St N W0 f n L a W ι σ) (hsame : Same W W') (hold : ∀ c, c < W0.heap.size → W'.heap[c]? = W.heap[c]?) (hk : ∀ b p, ι b = some p → liveb σ b → W'.heap[p.c]? = W.heap[p.c]?)
    (he : EnvR ι (E N f') a'.tmps) (hd : a'.defers = a.defers) : St N W0 f' n L a' W' ι σ :=
  ⟨he, hs.hp, ⟨hs.post.same.trans hsame, hs.post.ext, hs.post.rel.other hsame.size hk, hs.post.len, fun c hc hm => by rw [hold c hc, hs.post.frame c hc hm], hs.post.fresh, hs.post.mono, hs.post.lives⟩, hd.trans hs.defers⟩

theorem St.put (hs : St N W0 f n L a W ι σ) (d : Option Nat) {x : V} {v : Value} (hx : VR ι x v) : EnvR ι (E N (updO f d x)) (a.put d v).tmps := by
  rw [← put_E]
  exact hs.env.put d hx

/-- A map is taken out of the machine. -/
theorem St.mapOut {b : Nat} {md : Md} {l : List (S × V)} {L' : HA} (hs : St N W0 f n L a W ι σ) (hmd : md.mut = true) (hb : At b (.mp md l) .dead L L') {t : Nat} (ht : t < N) (hf : f t = .map b) :
    ∃ c es ck, a.tmps.getD t Go.undef = .map (some c) ∧ MR ι l es.toList ∧ Stamps es.toList ck ∧ Held W0 c (.map es ck) ι (σ.set b .dead) W ∧ St N W0 f n L' a W ι (σ.set b .dead) := by
  have hmem := hs.hp.2.mem hb.mem
  have ht' := hs.env.get t
  rw [getD_E] at ht'
  have hrd : rd N f t = .map b := by
    unfold rd
    rw [show Nat.blt t N = true from Nat.ble_eq_true_of_le ht]
    exact hf
  rw [hrd] at ht'
  simp only [VR] at ht'
  obtain ⟨p, hp, hv⟩ := ht'
  have hR := hs.post.rel
  obtain ⟨es, ck, h1, h2, h3⟩ := hR.blk b p _ hp hmem.2
  have hblen : b < σ.length := by rw [hs.hp.1]; exact hmem.1
  have hkm : ∀ c, mutb (σ.set b .dead) c → mutb σ c ∧ c ≠ b := by
    rintro c ⟨y, hy, hm⟩
    by_cases hcb : b = c
    · subst hcb
      rw [List.getElem?_set_self hblen] at hy
      injection hy with hy
      subst hy
      cases hm
    · rw [List.getElem?_set_ne hcb] at hy
      exact ⟨⟨y, hy, hm⟩, Ne.symm hcb⟩
  have hkl : ∀ c, liveb (σ.set b .dead) c → liveb σ c ∧ c ≠ b := by
    rintro c ⟨y, hy, hm⟩
    by_cases hcb : b = c
    · subst hcb
      rw [List.getElem?_set_self hblen] at hy
      injection hy with hy
      subst hy
      cases hm
    · rw [List.getElem?_set_ne hcb] at hy
      exact ⟨⟨y, hy, hm⟩, Ne.symm hcb⟩
  have hmut : mutb σ b := ⟨_, hmem.2, hmd⟩
  refine ⟨p.c, es, ck, hv, h2, h3, ⟨?_, hR.lt b p hp, h1, fun b' p' hb' hl => ?_⟩, ⟨hs.env, hs.hp.set hb, ⟨hs.post.same, hs.post.ext, ⟨hR.lt, fun b' p' x hb' hx => ?_, fun b1 b2 p1 p2 e1 e2 hne hm hl => hR.sep b1 b2 p1 p2 e1 e2 hne (hkm _ hm).1 (hkl _ hl).1⟩, by simp, hs.post.frame, fun b' p' hb' hn => ?_, fun c hc hm => ?_, fun c hc hm => ?_⟩, hs.defers⟩⟩
  · rcases (hs.post.fresh b p hp rfl).2 with h | ⟨b0, p0, h0, _⟩
    · exact h
    · cases h0
  · have := hkl b' hl
    exact (hR.sep b b' p p' hp hb' (Ne.symm this.2) hmut this.1).symm
  · by_cases hcb : b = b'
    · subst hcb
      rw [List.getElem?_set_self hblen] at hx
      injection hx with hx
      subst hx
      trivial
    · rw [List.getElem?_set_ne hcb] at hx
      exact hR.blk b' p' x hb' hx
  · have := hs.post.fresh b' p' hb' hn
    simpa using this
  · exact absurd hc (Nat.not_lt_zero _)
  · exact absurd hc (Nat.not_lt_zero _)

/-- A loop, by how many rounds are left at most. -/
theorem rounds_more {c : Code} {Q : Exit → Act → World → Prop} : ∀ {n m : Nat}, n ≤ m → ∀ {a : Act} {w : World}, Code.rounds P c Q n a w → Code.rounds P c Q m a w
  | 0, _, _, _, _, h => by cases h
  | n + 1, m, hm, a, w, h => by
    obtain ⟨m, rfl⟩ : ∃ k, m = k + 1 := ⟨m - 1, by omega⟩
    rw [rounds_succ] at h ⊢
    refine Code.wp_mono (fun e a w q => ?_) h
    cases e with
    | normal => exact rounds_more (by omega) q
    | _ => exact q

theorem wp_loop_by {c : Code} {Q : Exit → Act → World → Prop} (J : Nat → Act → World → Prop) (h : ∀ k a w, J k a w → c.wp P (Exit.then (fun a w => ∃ k', k' < k ∧ J k' a w) Q) a w) {k : Nat} {a : Act} {w : World} (h0 : J k a w) : (Code.loop c).wp P Q a w := by
  refine wp_loop_rounds (k + 1) ?_
  suffices ∀ k a w, J k a w → Code.rounds P c Q (k + 1) a w from this k a w h0
  intro k
  induction k using Nat.strongRecOn with
  | ind k ih =>
    intro a w hJ
    rw [rounds_succ]
    refine Code.wp_mono (fun e a w q => ?_) (h k a w hJ)
    cases e with
    | normal =>
      obtain ⟨k', hk, hJ'⟩ := q
      exact rounds_more (by omega) (ih k' hk a w hJ')
    | _ => exact q

/-! ### The iterator -/

/-- The loop over a map begins. -/
theorem exec_range {o : Oper} {t kt et : TypeId} {x : Operand} (ho : o.op = .range t x) (ht : P.underlying t = some (.map kt et)) {bm : Nat} (hx : a.eval x = .map (some bm)) {es : Array MapEntry} {ck : Nat} (hb : W.heap[bm]? = some (.map es ck)) :
    (execOp a.eval o).run P W = .ok (.value (.pointer (some ⟨W.heap.size, 0, none⟩))) (W.alloc (.mapIter (some bm) ck #[] ck)) := by
  simp only [execOp, ho, hx]
  simp [run_range_map W t kt et bm es ck ht hb]

theorem Held.alloc {c : Nat} {o o' : Obj} (h : Held W0 c o ι σ W) : Held W0 c o ι σ (W.alloc o') :=
  ⟨h.new, by have := h.lt; simp; omega, by rw [heap_alloc W o' c h.lt]; exact h.obj, h.apart⟩

theorem Held.newly (hs : St N W0 f n L a W ι σ) (o : Obj) : Held W0 W.heap.size o ι σ (W.alloc o) :=
  ⟨hs.post.same.size, by simp, heap_alloc_at W o, fun b p hb _ h => by have := hs.post.rel.lt b p hb; omega⟩

theorem St.alloc (hs : St N W0 f n L a W ι σ) (o : Obj) {a' : Act} {f' : FE} (he : EnvR ι (E N f') a'.tmps) (hd : a'.defers = a.defers) : St N W0 f' n L a' (W.alloc o) ι σ :=
  hs.hand ⟨rfl, rfl, rfl, by simp⟩ (fun c hc => heap_alloc W o c (Nat.lt_of_lt_of_le hc hs.post.same.size)) (fun b p hb _ => heap_alloc W o _ (hs.post.rel.lt b p hb)) he hd

/-- The iterator's block: the machine knows where it lies, no more. -/
theorem St.iter (hs : St N W0 f n L a W ι σ) (o : Obj) : ∃ ι', ι' n = some ⟨W.heap.size, 0, 0, 0, 0⟩ ∧ Post ι σ W ι' (σ ++ [.dead]) (W.alloc o) ∧ Held W0 W.heap.size o ι' (σ ++ [.dead]) (W.alloc o) ∧ St N W0 f (n + 1) L a (W.alloc o) ι' (σ ++ [.dead]) := by
  have hn : ι σ.length = none := by
    cases h : ι σ.length with
    | none => rfl
    | some p => have := hs.dom _ _ h; omega
  have hq := alloc_q hs.post.rel hn o .dead ⟨W.heap.size, 0, 0, 0, 0⟩ rfl trivial
  have hl : σ.length = n := hs.hp.1
  have hh := hs.hp.new .dead
  refine ⟨_, by rw [← hl]; exact Inj.put_same _ _ _, hq.post, ⟨hs.post.same.size, by simp, heap_alloc_at W o, fun b p hb hl' h => ?_⟩, hs.trans hq.post (hs.env.ext hq.ext) ⟨hh.1, hh.2.2.2.2⟩ rfl⟩
  unfold Inj.put at hb
  split at hb
  · rename_i e
    subst e
    obtain ⟨x, hx, hlv⟩ := hl'
    simp at hx
    subst hx
    cases hlv
  · have := hs.post.rel.lt b p hb; omega

theorem St.getP (hs : St N W0 f n L a W ι σ) {t b r q : Nat} (ht : Nat.blt t N = true) (hf : f t = .ptr b 0 q) (hb : ι b = some ⟨r, 0, 0, 0, 0⟩) : a.tmps.getD t Go.undef = .pointer (some ⟨r, 0, none⟩) := by
  have h := hs.env.get t
  rw [getD_E, show rd N f t = .ptr b 0 q by unfold rd; rw [ht]; exact hf] at h
  simp only [VR] at h
  obtain ⟨p, hp, _, hv⟩ := h
  rw [hb] at hp
  injection hp with hp
  subst hp
  exact hv

theorem St.getS (hs : St N W0 f n L a W ι σ) {t : Nat} {x : S} (ht : Nat.blt t N = true) (hf : f t = .s x) : a.tmps.getD t Go.undef = x.val := by
  have h := hs.env.get t
  rw [getD_E, show rd N f t = .s x by unfold rd; rw [ht]; exact hf] at h
  simpa only [VR] using h

theorem St.sub {L' : HA} (hs : St N W0 f n L a W ι σ) (h : List.Sublist L' L) : St N W0 f n L' a W ι σ := ⟨hs.env, hs.hp.sub h, hs.post, hs.defers⟩

theorem St.set (hs : St N W0 f n L a W ι σ) (d : Nat) {x : V} {v : Value} (hx : VR ι x v) : St N W0 (upd f d x) n L (a.put (some d) v) W ι σ := ⟨hs.put (some d) hx, hs.hp, hs.post, hs.defers⟩

theorem St.next (hs : St N W0 f n L a W ι σ) {r bm ck : Nat} {seen : Array Nat} {es : Array MapEntry} (hr : Held W0 r (.mapIter (some bm) ck seen ck) ι σ W) (hb : Held W0 bm (.map es ck) ι σ W) (hst : Stamps es.toList ck) {o : Oper} {x : Operand} (ho : o.op = .next x false) (hx : a.eval x = .pointer (some ⟨r, 0, none⟩)) :
    ((leftOf es seen).size = 0 ∧ (execOp a.eval o).run P W = .ok (.value (.tuple #[.bool false])) W) ∨
    ∃ e ∈ (leftOf es seen).toList, ∃ W', (execOp a.eval o).run P W = .ok (.value (.tuple #[.bool true, e.key, e.val])) W' ∧ Held W0 r (.mapIter (some bm) ck (seen.push e.born) ck) ι σ W' ∧ Held W0 bm (.map es ck) ι σ W' ∧ ∀ a' f', EnvR ι (E N f') a'.tmps → a'.defers = a.defers → St N W0 f' n L a' W' ι σ := by
  have hne : bm ≠ r := by
    rintro rfl
    have := hb.obj.symm.trans hr.obj
    injection this with this
    cases this
  rcases run_next_at (P := P) W o.type r bm ck ck seen es ck hr.obj hb.obj hst.1 (Nat.le_refl _) with ⟨h0, h1⟩ | ⟨e, he, w1, hw1, h1⟩
  · refine .inl ⟨h0, ?_⟩
    simp only [execOp, ho, hx]
    simp [h1]
  · refine .inr ⟨e, he, setBlock w1 r (.mapIter (some bm) ck (seen.push e.born) ck), ?_, ?_, ?_, fun a' f' hE hd => ?_⟩
    · simp only [execOp, ho, hx]
      simp [h1]
    all_goals have hh : w1.heap = W.heap := by rcases hw1 with rfl | rfl <;> rfl
    · refine ⟨hr.new, by simp only [setBlock, hh, Array.size_setIfInBounds]; exact hr.lt, ?_, hr.apart⟩
      simp only [setBlock, hh]
      rw [Array.getElem?_setIfInBounds_self_of_lt hr.lt]
    · refine ⟨hb.new, by simp only [setBlock, hh, Array.size_setIfInBounds]; exact hb.lt, ?_, hb.apart⟩
      simp only [setBlock, hh]
      rw [Array.getElem?_setIfInBounds_ne (Ne.symm hne)]
      exact hb.obj
    · refine hs.hand ⟨by rcases hw1 with rfl | rfl <;> rfl, by rcases hw1 with rfl | rfl <;> rfl, by rcases hw1 with rfl | rfl <;> rfl, by simp [setBlock, hh]⟩ (fun c hc => ?_) (fun b p hp hl => ?_) hE hd
      · simp only [setBlock, hh]
        rw [Array.getElem?_setIfInBounds_ne (by have := hr.new; omega)]
      · simp only [setBlock, hh]
        rw [Array.getElem?_setIfInBounds_ne (Ne.symm (hr.apart b p hp hl))]

theorem exec_entry {r bm ck : Nat} {seen : Array Nat} {es : Array MapEntry} {e : MapEntry} (hr : Held W0 r (.mapIter (some bm) ck (seen.push e.born) ck) ι σ W) (hb : Held W0 bm (.map es ck) ι σ W) (hst : Stamps es.toList ck) (he : e ∈ es.toList) {o : Oper} {x : Operand} (ho : o.op = .entry x) (hx : a.eval x = .pointer (some ⟨r, 0, none⟩)) :
    (execOp a.eval o).run P W = .ok (.value (.tuple #[e.key, e.val])) W := by
  simp only [execOp, ho, hx]
  simp [run_entry_at (P := P) W r bm ck seen es ck e hr.obj hb.obj he hst.2]

/-- What is left when one more has been handed out. -/
theorem left_push {es : Array MapEntry} {seen : Array Nat} {e : MapEntry} (he : e ∈ (leftOf es seen).toList) : (leftOf es (seen.push e.born)).size < (leftOf es seen).size := by
  have hq : ∀ s, (leftOf es s).toList = es.toList.filter fun e => !s.contains e.born := fun s => by unfold leftOf; exact Array.toList_filter ..
  rw [← Array.length_toList, ← Array.length_toList (xs := leftOf es seen), hq, hq]
  rw [hq] at he
  have hm := List.mem_filter.1 he
  refine filter_lt _ _ (fun x hx => ?_) e hm.2 (by simp) _ hm.1
  simp at hx ⊢
  exact hx.1

end
end Go.Am
