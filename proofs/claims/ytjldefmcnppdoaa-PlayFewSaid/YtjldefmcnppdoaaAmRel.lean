/- The abstract machine's values and heaps, held against the model's: the relation, and how it is carried on. -/
import Derived.Test.YtjldefmcnppdoaaAmDefs
import Derived.WalkKit
namespace Go.Am
open Go

/-- Where an abstract block lies: block, first cell, number of cells; for a slice that grows: its capacity and the row's size. -/
structure Place where
  c : Nat
  base : Nat
  n : Nat
  cap : Nat
  sz : Nat

abbrev Inj := Nat → Option Place

def capOK (p : Place) (o n z : Nat) (m : Cp) (c : Nat) : Prop :=
  match m with
  | .ex k => c = k ∧ n ≤ k ∧ o + k * z ≤ p.n
  | .unk => n ≤ c
  | .whole => o = 0 ∧ p.base = 0 ∧ c = p.cap ∧ n ≤ c ∧ c * z = p.sz ∧ n * z = p.n

mutual
def VR (ι : Inj) : V → Value → Prop
  | .s x, v => v = x.val
  | .agg n g, v => ∃ cs : Array Value, v = .agg cs ∧ cs.size = n ∧ ∀ i, i < n → cs[i]? = some (g i).val
  | .aggv l, v => ∃ cs : List Value, v = .agg cs.toArray ∧ VRL ι l cs
  | .ptr b o z, v => ∃ p, ι b = some p ∧ o + z ≤ p.n ∧ v = .pointer (some ⟨p.c, p.base + o, none⟩)
  | .pnil, v => v = .pointer none
  | .sl b o n z m, v => ∃ p c, ι b = some p ∧ o + n * z ≤ p.n ∧ v = .slice (some ⟨p.c, p.base + o, none⟩) n c ∧ capOK p o n z m c
  | .slz, v => ∃ a c, v = .slice (some a) 0 c
  | .snil, v => v = .slice none 0 0
  | .map b, v => ∃ p, ι b = some p ∧ v = .map (some p.c)
  | .mnil, v => v = .map none
  | .fn f l, v => ∃ cs : List Value, v = .func (.func f) #[] cs.toArray ∧ VRL ι l cs
  | .fnil, v => v = .nilFunc
  | .iface t x, v => ∃ u, v = .iface t u ∧ VR ι x u
  | .inil, v => v = .nilIface
  | .tup l, v => ∃ cs : List Value, v = .tuple cs.toArray ∧ VRL ι l cs
  | .undef, _ => True
def VRL (ι : Inj) : List V → List Value → Prop
  | [], vs => vs = []
  | x :: l, vs => ∃ v r, vs = v :: r ∧ VR ι x v ∧ VRL ι l r
end

def Own (m : Md) (W : World) (p : Place) : Prop :=
  m.mut = true → p.base = 0 ∧ p.n ≤ p.sz ∧ ∃ cs T, W.heap[p.c]? = some (.cells cs T (0, 0)) ∧ cs.size = p.sz

def MR (ι : Inj) : List (S × V) → List MapEntry → Prop
  | [], es => es = []
  | (k, x) :: l, es => ∃ e r, es = e :: r ∧ e.key = k.val ∧ VR ι x e.val ∧ MR ι l r

/-- The entries' stamps are below the map's clock, and no two are the same. -/
def Stamps (es : List MapEntry) (ck : Nat) : Prop := (∀ x ∈ es, x.born < ck) ∧ (es.map (·.born)).Nodup

theorem Stamps.nil : Stamps [] 0 := ⟨by simp, List.nodup_nil⟩

theorem Stamps.push {es : List MapEntry} {ck : Nat} (h : Stamps es ck) (k v : Value) : Stamps (es ++ [⟨k, v, ck⟩]) (ck + 1) := by
  refine ⟨fun x hx => ?_, ?_⟩
  · rcases List.mem_append.1 hx with hx | hx
    · exact Nat.lt_succ_of_lt (h.1 x hx)
    · rw [List.mem_singleton.1 hx]; exact Nat.lt_succ_self _
  · rw [List.map_append]
    refine List.nodup_append.2 ⟨h.2, by simp, ?_⟩
    intro a ha b hb
    obtain ⟨x, hx, rfl⟩ := List.mem_map.1 ha
    have h1 := h.1 x hx
    have : b = ck := by simpa using hb
    omega

theorem Stamps.modify {es : List MapEntry} {ck : Nat} (h : Stamps es ck) (q : Nat) (k v : Value) : Stamps (es.modify q fun e => { e with key := k, val := v }) ck := by
  have hb : (es.modify q fun e => { e with key := k, val := v }).map (·.born) = es.map (·.born) := by
    clear h
    induction es generalizing q with
    | nil => cases q <;> rfl
    | cons x es ih =>
      cases q with
      | zero => rfl
      | succ q => rw [List.modify_succ_cons, List.map_cons, List.map_cons, ih]
  refine ⟨fun x hx => ?_, by rw [hb]; exact h.2⟩
  have : x.born ∈ es.map (·.born) := by rw [← hb]; exact List.mem_map.2 ⟨x, hx, rfl⟩
  obtain ⟨y, hy, e⟩ := List.mem_map.1 this
  rw [← e]
  exact h.1 y hy

def BlkR (ι : Inj) (W : World) (x : Blk) (p : Place) : Prop :=
  match x with
  | .sc m n g => n = p.n ∧ (∀ i, i < n → W.cell? ⟨p.c, p.base + i, none⟩ = some (g i).val) ∧ Own m W p
  | .vs m l => l.length = p.n ∧ (∀ i x, l[i]? = some x → ∃ v, W.cell? ⟨p.c, p.base + i, none⟩ = some v ∧ VR ι x v) ∧ Own m W p
  | .mp _ l => ∃ es ck, W.heap[p.c]? = some (.map es ck) ∧ MR ι l es.toList ∧ Stamps es.toList ck
  | .dead => True

def Blk.mut : Blk → Bool
  | .sc m _ _ => m.mut
  | .vs m _ => m.mut
  | .mp m _ => m.mut
  | .dead => false

def Blk.live : Blk → Bool
  | .dead => false
  | _ => true

def mutb (σ : Heap) (b : Nat) : Prop := ∃ x, σ[b]? = some x ∧ x.mut = true
def liveb (σ : Heap) (b : Nat) : Prop := ∃ x, σ[b]? = some x ∧ x.live = true

theorem mutb.live {σ : Heap} {b : Nat} (h : mutb σ b) : liveb σ b := by
  obtain ⟨x, hx, hm⟩ := h
  refine ⟨x, hx, ?_⟩
  cases x <;> simp_all [Blk.mut, Blk.live]

structure RelW (ι : Inj) (σ : Heap) (W : World) : Prop where
  lt : ∀ b p, ι b = some p → p.c < W.heap.size
  blk : ∀ b p x, ι b = some p → σ[b]? = some x → BlkR ι W x p
  sep : ∀ b b' p p', ι b = some p → ι b' = some p' → b ≠ b' → mutb σ b → liveb σ b' → p.c ≠ p'.c

def Ext (ι ι' : Inj) : Prop := ∀ b p, ι b = some p → ι' b = some p

theorem Ext.refl (ι : Inj) : Ext ι ι := fun _ _ h => h
theorem Ext.trans {a b c : Inj} (h : Ext a b) (k : Ext b c) : Ext a c := fun _ _ x => k _ _ (h _ _ x)

mutual
theorem VR.ext {ι ι' : Inj} (h : Ext ι ι') : ∀ (x : V) (v : Value), VR ι x v → VR ι' x v
  | .s _, _, hx => by simpa only [VR] using hx
  | .agg _ _, _, hx => by simpa only [VR] using hx
  | .aggv l, _, hx => by
    simp only [VR] at hx ⊢
    obtain ⟨cs, e, hl⟩ := hx
    exact ⟨cs, e, VRL.ext h l cs hl⟩
  | .ptr b o z, _, hx => by
    simp only [VR] at hx ⊢
    obtain ⟨p, hp, r⟩ := hx
    exact ⟨p, h _ _ hp, r⟩
  | .pnil, _, hx => by simpa only [VR] using hx
  | .sl b o n z m, _, hx => by
    simp only [VR] at hx ⊢
    obtain ⟨p, c, hp, r⟩ := hx
    exact ⟨p, c, h _ _ hp, r⟩
  | .slz, _, hx => by simpa only [VR] using hx
  | .snil, _, hx => by simpa only [VR] using hx
  | .map b, _, hx => by
    simp only [VR] at hx ⊢
    obtain ⟨p, hp, r⟩ := hx
    exact ⟨p, h _ _ hp, r⟩
  | .mnil, _, hx => by simpa only [VR] using hx
  | .fn f l, _, hx => by
    simp only [VR] at hx ⊢
    obtain ⟨cs, e, hl⟩ := hx
    exact ⟨cs, e, VRL.ext h l cs hl⟩
  | .fnil, _, hx => by simpa only [VR] using hx
  | .iface t x, _, hx => by
    simp only [VR] at hx ⊢
    obtain ⟨u, e, hu⟩ := hx
    exact ⟨u, e, VR.ext h x u hu⟩
  | .inil, _, hx => by simpa only [VR] using hx
  | .tup l, _, hx => by
    simp only [VR] at hx ⊢
    obtain ⟨cs, e, hl⟩ := hx
    exact ⟨cs, e, VRL.ext h l cs hl⟩
  | .undef, _, _ => by simp only [VR]
theorem VRL.ext {ι ι' : Inj} (h : Ext ι ι') : ∀ (l : List V) (vs : List Value), VRL ι l vs → VRL ι' l vs
  | [], _, hx => by simpa only [VRL] using hx
  | x :: l, _, hx => by
    simp only [VRL] at hx ⊢
    obtain ⟨v, r, e, hv, hr⟩ := hx
    exact ⟨v, r, e, VR.ext h x v hv, VRL.ext h l r hr⟩
end

theorem MR.ext {ι ι' : Inj} (h : Ext ι ι') : ∀ (l : List (S × V)) (es : List MapEntry), MR ι l es → MR ι' l es
  | [], _, hx => by simpa only [MR] using hx
  | (k, x) :: l, _, hx => by
    simp only [MR] at hx ⊢
    obtain ⟨e, r, e1, hk, hv, hr⟩ := hx
    exact ⟨e, r, e1, hk, VR.ext h x _ hv, MR.ext h l r hr⟩

/-! ### Lists -/

theorem VRL.length {ι : Inj} : ∀ {l : List V} {vs : List Value}, VRL ι l vs → l.length = vs.length
  | [], _, h => by simp only [VRL] at h; subst h; rfl
  | x :: l, _, h => by
    simp only [VRL] at h
    obtain ⟨v, r, rfl, _, hr⟩ := h
    simp [VRL.length hr]

theorem VRL.at {ι : Inj} : ∀ {l : List V} {vs : List Value}, VRL ι l vs → ∀ (i : Nat) x, l[i]? = some x → ∃ v, vs[i]? = some v ∧ VR ι x v
  | [], _, _, i, x, hx => by simp at hx
  | y :: l, _, h, i, x, hx => by
    simp only [VRL] at h
    obtain ⟨v, r, rfl, hv, hr⟩ := h
    cases i with
    | zero => simp at hx; subst hx; exact ⟨v, by simp, hv⟩
    | succ i => simp at hx; simpa using VRL.at hr i x hx

theorem VRL.of_at {ι : Inj} : ∀ {l : List V} {vs : List Value}, l.length = vs.length → (∀ (i : Nat) x v, l[i]? = some x → vs[i]? = some v → VR ι x v) → VRL ι l vs
  | [], vs, h, _ => by simp only [VRL]; exact List.length_eq_zero_iff.1 h.symm
  | x :: l, [], h, _ => by simp at h
  | x :: l, v :: vs, h, ha => by
    simp only [VRL]
    exact ⟨v, vs, rfl, ha 0 x v rfl rfl, VRL.of_at (by simpa using h) fun i y u hy hu => ha (i + 1) y u (by simpa using hy) (by simpa using hu)⟩

theorem VRL.append {ι : Inj} : ∀ {l : List V} {vs : List Value} {m : List V} {ws : List Value}, VRL ι l vs → VRL ι m ws → VRL ι (l ++ m) (vs ++ ws)
  | [], _, _, _, h, k => by simp only [VRL] at h; subst h; simpa using k
  | x :: l, _, _, _, h, k => by
    simp only [VRL] at h
    obtain ⟨v, r, rfl, hv, hr⟩ := h
    simp only [List.cons_append, VRL]
    exact ⟨v, _, rfl, hv, VRL.append hr k⟩

theorem VRL.drop {ι : Inj} : ∀ (n : Nat) {l : List V} {vs : List Value}, VRL ι l vs → VRL ι (l.drop n) (vs.drop n)
  | 0, _, _, h => by simpa using h
  | n + 1, [], _, h => by simp only [VRL] at h; subst h; simp [VRL]
  | n + 1, x :: l, _, h => by
    simp only [VRL] at h
    obtain ⟨v, r, rfl, hv, hr⟩ := h
    simpa using VRL.drop n hr

theorem VRL.take {ι : Inj} : ∀ (n : Nat) {l : List V} {vs : List Value}, VRL ι l vs → VRL ι (l.take n) (vs.take n)
  | 0, _, _, h => by simp [VRL]
  | n + 1, [], _, h => by simp only [VRL] at h; subst h; simp [VRL]
  | n + 1, x :: l, _, h => by
    simp only [VRL] at h
    obtain ⟨v, r, rfl, hv, hr⟩ := h
    simp only [List.take_succ_cons, VRL]
    exact ⟨v, _, rfl, hv, VRL.take n hr⟩

/-! ### Transitions -/

structure Same (W W' : World) : Prop where
  os : W'.os = W.os
  tape : W'.tape = W.tape
  output : W'.output = W.output
  size : W.heap.size ≤ W'.heap.size

theorem Same.refl (W : World) : Same W W := ⟨rfl, rfl, rfl, Nat.le_refl _⟩
theorem Same.trans {a b c : World} (h : Same a b) (k : Same b c) : Same a c := ⟨k.os.trans h.os, k.tape.trans h.tape, k.output.trans h.output, Nat.le_trans h.size k.size⟩

structure Post (ι : Inj) (σ : Heap) (W : World) (ι' : Inj) (σ' : Heap) (W' : World) : Prop where
  same : Same W W'
  ext : Ext ι ι'
  rel : RelW ι' σ' W'
  len : σ.length ≤ σ'.length
  frame : ∀ c, c < W.heap.size → (∀ b p, ι b = some p → mutb σ b → p.c ≠ c) → W'.heap[c]? = W.heap[c]?
  fresh : ∀ b p, ι' b = some p → ι b = none → (σ.length ≤ b ∧ b < σ'.length) ∧ (W.heap.size ≤ p.c ∨ ∃ b0 p0, ι b0 = some p0 ∧ mutb σ b0 ∧ p0.c = p.c)
  mono : ∀ b, b < σ.length → mutb σ' b → mutb σ b
  lives : ∀ b, b < σ.length → liveb σ' b → liveb σ b

structure QPost (ι : Inj) (σ : Heap) (W : World) (ι' : Inj) (σ' : Heap) (W' : World) : Prop where
  same : Same W W'
  ext : Ext ι ι'
  rel : RelW ι' σ' W'
  pre : ∃ new, σ' = σ ++ new
  frame : ∀ c, c < W.heap.size → W'.heap[c]? = W.heap[c]?
  fresh : ∀ b p, ι' b = some p → ι b = none → (σ.length ≤ b ∧ b < σ'.length) ∧ W.heap.size ≤ p.c

theorem QPost.post {ι : Inj} {σ : Heap} {W : World} {ι' : Inj} {σ' : Heap} {W' : World} (h : QPost ι σ W ι' σ' W') : Post ι σ W ι' σ' W' where
  same := h.same
  ext := h.ext
  rel := h.rel
  len := by obtain ⟨new, rfl⟩ := h.pre; simp
  frame := fun c hc _ => h.frame c hc
  fresh := fun b p hb hn => let ⟨r, s⟩ := h.fresh b p hb hn; ⟨r, .inl s⟩
  mono := fun b hb ⟨x, hx, hm⟩ => by
    obtain ⟨new, rfl⟩ := h.pre
    rw [List.getElem?_append_left hb] at hx
    exact ⟨x, hx, hm⟩
  lives := fun b hb ⟨x, hx, hm⟩ => by
    obtain ⟨new, rfl⟩ := h.pre
    rw [List.getElem?_append_left hb] at hx
    exact ⟨x, hx, hm⟩

theorem QPost.refl {ι : Inj} {σ : Heap} {W : World} (h : RelW ι σ W) : QPost ι σ W ι σ W :=
  ⟨.refl W, .refl ι, h, ⟨[], by simp⟩, fun _ _ => rfl, fun b p hb hn => by simp [hb] at hn⟩

/-- All that is placed lies in the heap. -/
def Dom (ι : Inj) (σ : Heap) : Prop := ∀ b p, ι b = some p → b < σ.length

theorem Post.dom {ι : Inj} {σ : Heap} {W : World} {ι' : Inj} {σ' : Heap} {W' : World} (h : Post ι σ W ι' σ' W') (hd : Dom ι σ) : Dom ι' σ' := by
  intro b p hb
  cases hn : ι b with
  | none => exact (h.fresh b p hb hn).1.2
  | some q => exact Nat.lt_of_lt_of_le (hd b q hn) h.len

theorem Post.trans {ι : Inj} {σ : Heap} {W : World} {ι1 : Inj} {σ1 : Heap} {W1 : World} {ι2 : Inj} {σ2 : Heap} {W2 : World}
    (hd : Dom ι σ) (h : Post ι σ W ι1 σ1 W1) (k : Post ι1 σ1 W1 ι2 σ2 W2) : Post ι σ W ι2 σ2 W2 where
  same := h.same.trans k.same
  ext := h.ext.trans k.ext
  rel := k.rel
  len := Nat.le_trans h.len k.len
  frame := fun c hc hm => by
    rw [k.frame c (Nat.lt_of_lt_of_le hc h.same.size) ?_, h.frame c hc hm]
    intro b p hb hmut
    cases hn : ι b with
    | some q =>
      have e := h.ext b q hn
      rw [hb] at e
      injection e with e
      subst e
      exact hm b p hn (h.mono b (hd b p hn) hmut)
    | none =>
      rcases (h.fresh b p hb hn).2 with hf | ⟨b0, p0, h0, m0, e0⟩
      · omega
      · rw [← e0]; exact hm b0 p0 h0 m0
  fresh := fun b p hb hn => by
    cases hn1 : ι1 b with
    | some q =>
      have e := k.ext b q hn1
      rw [hb] at e
      injection e with e
      subst e
      have := h.fresh b p hn1 hn
      exact ⟨⟨this.1.1, Nat.lt_of_lt_of_le this.1.2 k.len⟩, this.2⟩
    | none =>
      obtain ⟨⟨r1, r2⟩, r3⟩ := k.fresh b p hb hn1
      refine ⟨⟨Nat.le_trans h.len r1, r2⟩, ?_⟩
      rcases r3 with hf | ⟨b0, p0, h0, m0, e0⟩
      · exact .inl (Nat.le_trans h.same.size hf)
      · cases hn0 : ι b0 with
        | some q =>
          have e := h.ext b0 q hn0
          rw [h0] at e
          injection e with e
          subst e
          exact .inr ⟨b0, p0, hn0, h.mono b0 (hd b0 p0 hn0) m0, e0⟩
        | none =>
          rcases (h.fresh b0 p0 h0 hn0).2 with hf | ⟨b1, p1, h1, m1, e1⟩
          · exact .inl (by omega)
          · exact .inr ⟨b1, p1, h1, m1, e1.trans e0⟩
  mono := fun b hb hm => h.mono b hb (k.mono b (Nat.lt_of_lt_of_le hb h.len) hm)
  lives := fun b hb hm => h.lives b hb (k.lives b (Nat.lt_of_lt_of_le hb h.len) hm)

/-- Cells as they were: the relation of a block is carried on. -/
theorem BlkR.keep {ι ι' : Inj} {W W' : World} {x : Blk} {p : Place} (he : Ext ι ι') (hw : W'.heap[p.c]? = W.heap[p.c]?) (h : BlkR ι W x p) : BlkR ι' W' x p := by
  have hcell : ∀ i, W'.cell? ⟨p.c, i, none⟩ = W.cell? ⟨p.c, i, none⟩ := fun i => by simp [World.cell?, hw]
  cases x with
  | sc m n g =>
    obtain ⟨h1, h2, h3⟩ := h
    exact ⟨h1, fun i hi => by rw [hcell]; exact h2 i hi, fun hm => by rw [hw]; exact h3 hm⟩
  | vs m l =>
    obtain ⟨h1, h2, h3⟩ := h
    refine ⟨h1, fun i y hy => ?_, fun hm => by rw [hw]; exact h3 hm⟩
    obtain ⟨v, hv, hr⟩ := h2 i y hy
    exact ⟨v, by rw [hcell]; exact hv, VR.ext he _ _ hr⟩
  | mp m l =>
    obtain ⟨es, ck, h1, h2, h3⟩ := h
    exact ⟨es, ck, by rw [hw]; exact h1, MR.ext he _ _ h2, h3⟩
  | dead => trivial

/-- One place more. -/
def Inj.put (ι : Inj) (b : Nat) (p : Place) : Inj := fun c => if c = b then some p else ι c

theorem Inj.put_same (ι : Inj) (b : Nat) (p : Place) : ι.put b p b = some p := by simp [Inj.put]
theorem Inj.put_ext {ι : Inj} {b : Nat} (p : Place) (h : ι b = none) : Ext ι (ι.put b p) := by
  intro c q hq
  unfold Inj.put
  split
  · rename_i e; subst e; simp [h] at hq
  · exact hq

theorem heap_alloc (W : World) (o : Obj) (c : Nat) (h : c < W.heap.size) : (W.alloc o).heap[c]? = W.heap[c]? := by
  show (W.heap.push o)[c]? = _
  rw [Array.getElem?_push, if_neg (by omega)]

theorem heap_alloc_at (W : World) (o : Obj) : (W.alloc o).heap[W.heap.size]? = some o := by
  show (W.heap.push o)[W.heap.size]? = _
  simp

/-- A new block in the model and in the machine. -/
theorem alloc_q {ι : Inj} {σ : Heap} {W : World} (h : RelW ι σ W) (hn : ι σ.length = none) (o : Obj) (x : Blk) (p : Place)
    (hc : p.c = W.heap.size) (hb : BlkR (ι.put σ.length p) (W.alloc o) x p) : QPost ι σ W (ι.put σ.length p) (σ ++ [x]) (W.alloc o) where
  same := ⟨rfl, rfl, rfl, by simp⟩
  ext := Inj.put_ext p hn
  pre := ⟨[x], rfl⟩
  frame := fun c hc => heap_alloc W o c hc
  fresh := fun b q hq hnone => by
    unfold Inj.put at hq
    split at hq
    · injection hq with hq; subst hq; simp_all
    · simp [hnone] at hq
  rel := by
    have hext := Inj.put_ext p hn
    refine ⟨fun b q hq => ?_, fun b q y hq hy => ?_, fun b b' q q' hq hq' hne hm hl => ?_⟩
    · unfold Inj.put at hq
      split at hq
      · injection hq with hq; subst hq; simp [hc]
      · have := h.lt b q hq; simp; omega
    · unfold Inj.put at hq
      split at hq
      · rename_i e
        injection hq with hq; subst hq; subst e
        simp at hy
        subst hy
        exact hb
      · rename_i e
        have hy' : σ[b]? = some y := by
          rw [List.getElem?_append] at hy
          split at hy
          · exact hy
          · rename_i hge
            have : b - σ.length ≠ 0 := by omega
            rw [List.getElem?_singleton, if_neg this] at hy
            simp at hy
        exact (h.blk b q y hq hy').keep hext (heap_alloc W o _ (h.lt b q hq))
    · have hmono : ∀ c, c ≠ σ.length → mutb (σ ++ [x]) c → mutb σ c := by
        rintro c hc ⟨y, hy, hm⟩
        rw [List.getElem?_append] at hy
        split at hy
        · exact ⟨y, hy, hm⟩
        · rw [List.getElem?_singleton, if_neg (by omega)] at hy; simp at hy
      have hlono : ∀ c, c ≠ σ.length → liveb (σ ++ [x]) c → liveb σ c := by
        rintro c hc ⟨y, hy, hm⟩
        rw [List.getElem?_append] at hy
        split at hy
        · exact ⟨y, hy, hm⟩
        · rw [List.getElem?_singleton, if_neg (by omega)] at hy; simp at hy
      unfold Inj.put at hq hq'
      split at hq <;> split at hq'
      · omega
      · injection hq with hq; subst hq
        have := h.lt b' q' hq'
        omega
      · injection hq' with hq'; subst hq'
        have := h.lt b q hq
        omega
      · rename_i e1 e2
        exact h.sep b b' q q' hq hq' hne (hmono b e1 hm) (hlono b' e2 hl)

/-! ### The frame of temporaries -/

def EnvR (ι : Inj) (e : Env) (tmps : Array Value) : Prop := VRL ι e tmps.toList

theorem EnvR.ext {ι ι' : Inj} {e : Env} {tmps : Array Value} (h : EnvR ι e tmps) (he : Ext ι ι') : EnvR ι' e tmps := VRL.ext he _ _ h

theorem EnvR.get {ι : Inj} {e : Env} {tmps : Array Value} (h : EnvR ι e tmps) (t : Nat) : VR ι (e.getD t .undef) (tmps.getD t Go.undef) := by
  cases hx : e[t]? with
  | none => simp [List.getD, hx, VR]
  | some x =>
    obtain ⟨v, hv, hr⟩ := VRL.at h t x hx
    have hv' : tmps[t]? = some v := by simpa using hv
    simp [List.getD, hx, hv', hr]

theorem VRL.set {ι : Inj} {x : V} {v : Value} (hx : VR ι x v) : ∀ {l : List V} {vs : List Value} (t : Nat), VRL ι l vs → VRL ι (l.set t x) (vs.set t v)
  | [], _, t, h => by simp only [VRL] at h; subst h; simp [VRL]
  | y :: l, _, 0, h => by
    simp only [VRL] at h
    obtain ⟨u, r, rfl, hu, hr⟩ := h
    simp only [List.set_cons_zero, VRL]
    exact ⟨v, r, rfl, hx, hr⟩
  | y :: l, _, t + 1, h => by
    simp only [VRL] at h
    obtain ⟨u, r, rfl, hu, hr⟩ := h
    simp only [List.set_cons_succ, VRL]
    exact ⟨u, _, rfl, hu, VRL.set hx t hr⟩

theorem EnvR.put {ι : Inj} {e : Env} {a : Act} (h : EnvR ι e a.tmps) (d : Option Nat) {x : V} {v : Value} (hx : VR ι x v) : EnvR ι (putT e d x) (a.put d v).tmps := by
  cases d with
  | none => exact h
  | some d =>
    show VRL ι (e.set d x) (a.tmps.setIfInBounds d v).toList
    rw [Array.toList_setIfInBounds]
    exact VRL.set hx d h

/-! ### Constants -/

/-- A value that needs no place. -/
def V.flat : V → Bool
  | .s _ | .pnil | .snil | .mnil | .fnil | .inil => true
  | .fn _ [] => true
  | .undef => true
  | _ => false

end Go.Am
