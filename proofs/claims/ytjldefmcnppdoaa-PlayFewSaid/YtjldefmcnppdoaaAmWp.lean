/- The abstract machine by assertions: what a run leads to, over what is known of the heap. -/
import Derived.Test.YtjldefmcnppdoaaAmRun
namespace Go.Am
open Go

abbrev FE := Nat → V
abbrev HA := List (Nat × Blk)

def E (N : Nat) (f : FE) : Env := (List.range N).map f
def rd (N : Nat) (f : FE) (n : Nat) : V := bif Nat.blt n N then f n else .undef
def O.fv (N : Nat) (f : FE) : O → V
  | .t n => rd N f n
  | .k v => v
def upd (f : FE) (d : Nat) (v : V) : FE := fun i => bif Nat.beq i d then v else f i
def updO (f : FE) (d : Option Nat) (v : V) : FE :=
  match d with
  | some d => upd f d v
  | none => f

theorem getD_E (N : Nat) (f : FE) (n : Nat) : (E N f).getD n .undef = rd N f n := by
  unfold E rd
  rw [List.getD_eq_getElem?_getD, List.getElem?_map]
  by_cases h : n < N
  · rw [List.getElem?_range h]
    have : Nat.blt n N = true := Nat.ble_eq_true_of_le h
    simp [this]
  · rw [List.getElem?_eq_none (by simpa using h)]
    have : Nat.blt n N = false := by
      cases hb : Nat.blt n N with
      | false => rfl
      | true => simp at hb; omega
    simp [this]

theorem ev_E (N : Nat) (f : FE) (x : O) : x.ev (E N f) = x.fv N f := by
  cases x with
  | t n => exact getD_E N f n
  | k v => rfl

theorem evs_E (N : Nat) (f : FE) (xs : List O) : xs.map (·.ev (E N f)) = xs.map (O.fv N f) := List.map_congr_left fun x _ => ev_E N f x

theorem put_E (N : Nat) (f : FE) (d : Option Nat) (v : V) : putT (E N f) d v = E N (updO f d v) := by
  cases d with
  | none => rfl
  | some d =>
    simp only [putT, updO, E]
    refine List.ext_getElem (by simp) fun i h1 h2 => ?_
    simp only [List.getElem_set, List.getElem_map, List.getElem_range, upd]
    by_cases h : d = i
    · subst h; simp
    · rw [if_neg h]
      have : Nat.beq i d = false := by
        cases hb : Nat.beq i d with
        | false => rfl
        | true => exact absurd (Nat.eq_of_beq_eq_true hb).symm h
      rw [this]; rfl

theorem upd_self {f : FE} {d : Nat} {v : V} (h : f d = v) : upd f d v = f := by
  funext i
  unfold upd
  cases hb : Nat.beq i d with
  | false => rfl
  | true => rw [Nat.eq_of_beq_eq_true hb, h]; rfl

/-- How a condition that was met is told. -/
theorem NM : (∀ a b : Int, ((a == b) = true) = (a = b)) ∧ (∀ a b : Int, ((a == b) = false) = ¬ (a = b)) ∧ (∀ a b : Int, ((a != b) = true) = ¬ (a = b)) ∧ (∀ a b : Int, ((a != b) = false) = (a = b)) ∧
    (∀ (p : Prop) [Decidable p], (decide p = true) = p) ∧ (∀ (p : Prop) [Decidable p], (decide p = false) = ¬ p) ∧ (∀ a b : Int, (a > b) = (b < a)) ∧ (∀ a b : Int, (a ≥ b) = (b ≤ a)) ∧ (∀ a b : Int, (¬ a < b) = (b ≤ a)) ∧ (∀ a b : Int, (¬ a ≤ b) = (b < a)) ∧
    (∀ p : Prop, (¬¬ p) = p) ∧ (∀ b : Bool, (¬ b = true) = (b = false)) ∧ (∀ b : Bool, (¬ b = false) = (b = true)) ∧ (∀ b : Bool, ((!b) = true) = (b = false)) ∧ (∀ b : Bool, ((!b) = false) = (b = true)) ∧ (∀ a b : Bool, cond true a b = a) ∧ (∀ a b : Bool, cond false a b = b) ∧ (∀ a b : Int, (a ≠ b) = ¬ (a = b)) := by
  refine ⟨fun a b => ?_, fun a b => ?_, fun a b => ?_, fun a b => ?_, fun p _ => ?_, fun p _ => ?_, fun a b => ?_, fun a b => ?_, fun a b => ?_, fun a b => ?_, fun p => ?_, fun b => ?_, fun b => ?_, fun b => ?_, fun b => ?_, fun a b => rfl, fun a b => rfl, fun a b => rfl⟩ <;> simp

/-! ### What is known of a heap -/

def HL (σ : Heap) (n : Nat) : HA → Prop
  | [] => True
  | (b, B) :: L => b < n ∧ σ[b]? = some B ∧ (∀ p ∈ L, p.1 ≠ b) ∧ HL σ n L

def Hp (σ : Heap) (n : Nat) (L : HA) : Prop := σ.length = n ∧ HL σ n L

theorem HL.mem {σ : Heap} {n : Nat} {b : Nat} {B : Blk} : ∀ {L : HA}, HL σ n L → (b, B) ∈ L → b < n ∧ σ[b]? = some B
  | (c, C) :: L, h, hm => by
    rcases List.mem_cons.1 hm with he | hm
    · injection he with h1 h2
      subst h1; subst h2
      exact ⟨h.1, h.2.1⟩
    · exact HL.mem h.2.2.2 hm

theorem HL.lt {σ : Heap} {n : Nat} : ∀ {L : HA}, HL σ n L → ∀ p ∈ L, p.1 < n
  | (c, C) :: L, h, p, hm => by
    rcases List.mem_cons.1 hm with he | hm
    · subst he; exact h.1
    · exact HL.lt h.2.2.2 p hm

theorem HL.keep {σ τ : Heap} {n m : Nat} (hn : n ≤ m) : ∀ {L : HA}, (∀ p ∈ L, τ[p.1]? = σ[p.1]?) → HL σ n L → HL τ m L
  | [], _, _ => trivial
  | (c, C) :: L, hk, h => ⟨by have := h.1; omega, by rw [hk _ (.head _)]; exact h.2.1, h.2.2.1, h.2.2.2.keep hn fun p hp => hk p (.tail _ hp)⟩

theorem Hp.new {σ : Heap} {n : Nat} {L : HA} (h : Hp σ n L) (B : Blk) : Hp (σ ++ [B]) (n + 1) ((n, B) :: L) := by
  refine ⟨by simp [h.1], by omega, by rw [← h.1]; simp, fun p hp => by have := h.2.lt p hp; omega, h.2.keep (by omega) fun p hp => ?_⟩
  rw [List.getElem?_append_left]
  have := h.2.lt p hp
  rw [h.1]; exact this

/-- What is known after a block is laid anew. -/
def setL (b : Nat) (B : Blk) : HA → HA
  | [] => []
  | (c, C) :: L => (c, bif Nat.beq c b then B else C) :: setL b B L

theorem setL_none {b : Nat} {B : Blk} : ∀ {L : HA}, (∀ p ∈ L, p.1 ≠ b) → setL b B L = L
  | [], _ => rfl
  | (c, C) :: L, h => by
    have hc : Nat.beq c b = false := by
      cases hb : Nat.beq c b with
      | false => rfl
      | true => exact absurd (Nat.eq_of_beq_eq_true hb) (h _ (.head _))
    simp only [setL, hc, cond_false, setL_none fun p hp => h p (.tail _ hp)]

/-- A place among what is known. -/
inductive At (b : Nat) (B : Blk) (B' : Blk) : HA → HA → Prop
  | here {L : HA} : At b B B' ((b, B) :: L) ((b, B') :: L)
  | there {p : Nat × Blk} {L L' : HA} : At b B B' L L' → At b B B' (p :: L) (p :: L')

theorem At.mem {b : Nat} {B B' : Blk} {L L' : HA} (h : At b B B' L L') : (b, B) ∈ L := by
  induction h with
  | here => exact .head _
  | there _ ih => exact .tail _ ih

theorem At.fst {b : Nat} {B B' : Blk} {L L' : HA} (h : At b B B' L L') : ∀ q ∈ L', ∃ p ∈ L, p.1 = q.1 := by
  induction h with
  | here =>
    intro q hq
    rcases List.mem_cons.1 hq with he | hq
    · exact ⟨_, .head _, by rw [he]⟩
    · exact ⟨q, .tail _ hq, rfl⟩
  | there _ ih =>
    intro q hq
    rcases List.mem_cons.1 hq with he | hq
    · exact ⟨_, .head _, by rw [he]⟩
    · obtain ⟨p, hp, e⟩ := ih q hq
      exact ⟨p, .tail _ hp, e⟩

theorem HL.set {σ : Heap} {n : Nat} {b : Nat} {B B' : Blk} {L L' : HA} (ha : At b B B' L L') : HL σ n L → σ.length = n → HL (σ.set b B') n L' := by
  induction ha with
  | @here L =>
    intro h hl
    refine ⟨h.1, by rw [List.getElem?_set_self (by rw [hl]; exact h.1)], h.2.2.1, h.2.2.2.keep (Nat.le_refl _) fun p hp => ?_⟩
    rw [List.getElem?_set_ne (Ne.symm (h.2.2.1 p hp))]
  | @there p L L' ha ih =>
    obtain ⟨c, C⟩ := p
    intro h hl
    have hne : c ≠ b := fun e => h.2.2.1 _ ha.mem e.symm
    refine ⟨h.1, by rw [List.getElem?_set_ne (Ne.symm hne)]; exact h.2.1, fun q hq => ?_, ih h.2.2.2 hl⟩
    obtain ⟨p, hp, e⟩ := ha.fst q hq
    rw [← e]
    exact h.2.2.1 p hp

theorem Hp.set {σ : Heap} {n : Nat} {b : Nat} {B B' : Blk} {L L' : HA} (ha : At b B B' L L') (h : Hp σ n L) : Hp (σ.set b B') n L' := ⟨by simp [h.1], h.2.set ha h.1⟩

/-- One known fact less. -/
theorem Hp.drop {σ : Heap} {n : Nat} {p : Nat × Blk} {L : HA} (h : Hp σ n (p :: L)) : Hp σ n L := ⟨h.1, by obtain ⟨c, C⟩ := p; exact h.2.2.2.2⟩

theorem HL.sub {σ : Heap} {n : Nat} {L L' : HA} (hs : List.Sublist L' L) : HL σ n L → HL σ n L' := by
  induction hs with
  | slnil => exact fun h => h
  | cons p hs ih =>
    obtain ⟨c, C⟩ := p
    exact fun h => ih h.2.2.2
  | cons_cons p hs ih =>
    obtain ⟨c, C⟩ := p
    exact fun h => ⟨h.1, h.2.1, fun q hq => h.2.2.1 q (hs.subset hq), ih h.2.2.2⟩

theorem Hp.sub {σ : Heap} {n : Nat} {L L' : HA} (hs : List.Sublist L' L) (h : Hp σ n L) : Hp σ n L' := ⟨h.1, h.2.sub hs⟩

/-! ### What a run leads to -/

abbrev KN := FE → Nat → HA → Prop

def WO (A : AP) (N : Nat) (l : List I) (f : FE) (n : Nat) (L : HA) (K : KN) : Prop :=
  ∀ σ, Hp σ n L → ∃ f' σ' n' L', opsV (Run A) l (E N f) σ = some (E N f', σ') ∧ Hp σ' n' L' ∧ K f' n' L'

def outK (x : Ex) (f : FE) (n : Nat) (L : HA) (K : KN) (X : Nat → KN) (R : KN) : Prop :=
  match x with
  | .normal => K f n L
  | .exit j => X j f n L
  | .ret => R f n L

def WP (A : AP) (N : Nat) (c : AC) (f : FE) (n : Nat) (L : HA) (K : KN) (X : Nat → KN) (R : KN) : Prop :=
  ∀ σ, Hp σ n L → ∃ x f' σ' n' L', Exec A c (E N f) σ = some (x, E N f', σ') ∧ Hp σ' n' L' ∧ outK x f' n' L' K X R

section
variable {A : AP} {N : Nat} {f : FE} {n : Nat} {L : HA} {K : KN} {X : Nat → KN} {R : KN}

theorem WP_skip (h : K f n L) : WP A N .skip f n L K X R := fun σ hσ => ⟨.normal, f, σ, n, L, Exec_skip _ _, hσ, h⟩
theorem WP_ret (h : R f n L) : WP A N .ret f n L K X R := fun σ hσ => ⟨.ret, f, σ, n, L, Exec_ret _ _, hσ, h⟩
theorem WP_exit {j : Nat} (h : X j f n L) : WP A N (.exit j) f n L K X R := fun σ hσ => ⟨.exit j, f, σ, n, L, Exec_exit _ _ _, hσ, h⟩

theorem WP_ops {l : List I} (h : WO A N l f n L K) : WP A N (.ops l) f n L K X R := fun σ hσ => by
  obtain ⟨f', σ', n', L', h1, h2, h3⟩ := h σ hσ
  exact ⟨.normal, f', σ', n', L', by rw [Exec_ops, h1]; rfl, h2, h3⟩

theorem WP_seq {a b : AC} (h : WP A N a f n L (fun f n L => WP A N b f n L K X R) X R) : WP A N (.seq a b) f n L K X R := fun σ hσ => by
  obtain ⟨x, f', σ', n', L', h1, h2, h3⟩ := h σ hσ
  cases x with
  | normal =>
    obtain ⟨x, f2, σ2, n2, L2, h4, h5, h6⟩ := h3 σ' h2
    exact ⟨x, f2, σ2, n2, L2, by rw [Exec_seq, h1, then_normal, h4], h5, h6⟩
  | exit j => exact ⟨.exit j, f', σ', n', L', by rw [Exec_seq, h1, then_exit], h2, h3⟩
  | ret => exact ⟨.ret, f', σ', n', L', by rw [Exec_seq, h1, then_ret], h2, h3⟩

theorem WP_cond {c : O} {a b : AC} {t : Bool} (hc : c.fv N f = .s (.bool t)) (h1 : t = true → WP A N a f n L K X R) (h2 : t = false → WP A N b f n L K X R) : WP A N (.cond c a b) f n L K X R := fun σ hσ => by
  rw [Exec_cond, ev_E, hc]
  cases t with
  | true => exact h1 rfl σ hσ
  | false => exact h2 rfl σ hσ

theorem WP_block {id : Nat} {b : AC} (h : WP A N b f n L K (fun j f n L => bif Nat.beq j id then K f n L else X j f n L) R) : WP A N (.block id b) f n L K X R := fun σ hσ => by
  obtain ⟨x, f', σ', n', L', h1, h2, h3⟩ := h σ hσ
  cases x with
  | normal => exact ⟨.normal, f', σ', n', L', by rw [Exec_block, h1, out_normal], h2, h3⟩
  | ret => exact ⟨.ret, f', σ', n', L', by rw [Exec_block, h1, out_ret], h2, h3⟩
  | exit j =>
    simp only [outK] at h3
    cases hj : Nat.beq j id with
    | true =>
      rw [hj] at h3
      exact ⟨.normal, f', σ', n', L', by rw [Exec_block, h1, out_exit, Nat.eq_of_beq_eq_true hj]; simp, h2, h3⟩
    | false =>
      rw [hj] at h3
      refine ⟨.exit j, f', σ', n', L', ?_, h2, h3⟩
      rw [Exec_block, h1, out_exit]
      have : (j == id) = false := by
        cases hq : j == id with
        | false => rfl
        | true =>
          have := eq_of_beq hq
          subst this
          simp at hj
      rw [this]; rfl

theorem xhere {j : Nat} {a b : Prop} (h : a) : bif Nat.beq j j then a else b := by
  have : Nat.beq j j = true := by simp
  rw [this]; exact h
theorem xthere {i j : Nat} {a b : Prop} (hij : Nat.beq j i = false) (h : b) : bif Nat.beq j i then a else b := by rw [hij]; exact h

theorem WP_mono {c : AC} {K' : KN} {X' : Nat → KN} {R' : KN} (h : WP A N c f n L K X R) (hK : ∀ f n L, K f n L → K' f n L) (hX : ∀ j f n L, X j f n L → X' j f n L) (hR : ∀ f n L, R f n L → R' f n L) : WP A N c f n L K' X' R' := fun σ hσ => by
  obtain ⟨x, f', σ', n', L', h1, h2, h3⟩ := h σ hσ
  refine ⟨x, f', σ', n', L', h1, h2, ?_⟩
  cases x with
  | normal => exact hK _ _ _ h3
  | exit j => exact hX _ _ _ _ h3
  | ret => exact hR _ _ _ h3

/-- A loop, by what holds at its head and how many rounds are left at most. -/
theorem WP_loop {b : AC} (I : Nat → KN) (hb : ∀ m f n L, I m f n L → WP A N b f n L (fun f n L => ∃ k L', k < m ∧ List.Sublist L' L ∧ I k f n L') X R) : ∀ m {f : FE} {n : Nat} {L : HA}, I m f n L → WP A N (.loop b) f n L K X R := by
  intro m
  induction m using Nat.strongRecOn with
  | ind m ih =>
    intro f n L hI σ hσ
    obtain ⟨x, f', σ', n', L', h1, h2, h3⟩ := hb m f n L hI σ hσ
    rw [Exec_loop]
    cases x with
    | normal =>
      obtain ⟨k, L3, hk, hs, hIk⟩ := h3
      obtain ⟨x, f2, σ2, n2, L2, h4, h5, h6⟩ := ih k hk hIk σ' (h2.sub hs)
      exact ⟨x, f2, σ2, n2, L2, by rw [h1, then_normal, h4], h5, h6⟩
    | exit j => exact ⟨.exit j, f', σ', n', L', by rw [h1, then_exit], h2, h3⟩
    | ret => exact ⟨.ret, f', σ', n', L', by rw [h1, then_ret], h2, h3⟩

theorem WP_know {c : AC} {d : Nat} {v : V} (h : f d = v) (k : WP A N c (upd f d v) n L K X R) : WP A N c f n L K X R := by rw [upd_self h] at k; exact k
theorem WP_sub {c : AC} {L' : HA} (hs : List.Sublist L' L) (k : WP A N c f n L' K X R) : WP A N c f n L K X R := fun σ hσ => k σ (hσ.sub hs)

theorem WO_nil (h : K f n L) : WO A N [] f n L K := fun σ hσ => ⟨f, σ, n, L, rfl, hσ, h⟩

theorem WO_know {l : List I} {d : Nat} {v : V} (h : f d = v) (k : WO A N l (upd f d v) n L K) : WO A N l f n L K := by rw [upd_self h] at k; exact k

theorem WO_case {l : List I} {t : Nat} {b : Bool} (h : rd N f t = .s (.bool b)) (kt : b = true → WO A N l (upd f t (.s (.bool true))) n L K) (kf : b = false → WO A N l (upd f t (.s (.bool false))) n L K) : WO A N l f n L K := by
  have ht : f t = .s (.bool b) := by
    unfold rd at h
    cases hb : Nat.blt t N with
    | true => rw [hb] at h; exact h
    | false => rw [hb] at h; cases h
  cases b with
  | true => have := kt rfl; rw [upd_self ht] at this; exact this
  | false => have := kf rfl; rw [upd_self ht] at this; exact this

theorem WO_gt {l : List I} {d : Option Nat} {t : Nat} {want : Bool} {i : Ins} (h : rd N f t = .s (.bool want)) (k : WO A N (⟨d, none, i⟩ :: l) f n L K) : WO A N (⟨d, some (t, want), i⟩ :: l) f n L K := fun σ hσ => by
  obtain ⟨f', σ', n', L', h1, h2, h3⟩ := k σ hσ
  refine ⟨f', σ', n', L', ?_, h2, h3⟩
  rw [← h1]
  simp only [opsV, stepI, getD_E, h, beq_self_eq_true, cond_true]

theorem WO_gf {l : List I} {d : Option Nat} {t : Nat} {want b : Bool} {i : Ins} (h : rd N f t = .s (.bool b)) (hb : (b == want) = false) (k : WO A N l (updO f d (.tup [])) n L K) : WO A N (⟨d, some (t, want), i⟩ :: l) f n L K := fun σ hσ => by
  obtain ⟨f', σ', n', L', h1, h2, h3⟩ := k σ hσ
  refine ⟨f', σ', n', L', ?_, h2, h3⟩
  rw [← h1]
  simp only [opsV, stepI, getD_E, h, hb, cond_false, Option.bind_some, put_E]

theorem WO_gu {l : List I} {d : Option Nat} {t : Nat} {want : Bool} {i : Ins} (h : rd N f t = .tup []) (k : WO A N l (updO f d (.tup [])) n L K) : WO A N (⟨d, some (t, want), i⟩ :: l) f n L K := fun σ hσ => by
  obtain ⟨f', σ', n', L', h1, h2, h3⟩ := k σ hσ
  refine ⟨f', σ', n', L', ?_, h2, h3⟩
  rw [← h1]
  simp only [opsV, stepI, getD_E, h, Option.bind_some, put_E]

theorem WO_p {l : List I} {d : Option Nat} {i : PIns} {v : V} (h : pureV i (E N f) = some v) (k : WO A N l (updO f d v) n L K) : WO A N (⟨d, none, .p i⟩ :: l) f n L K := fun σ hσ => by
  obtain ⟨f', σ', n', L', h1, h2, h3⟩ := k σ hσ
  refine ⟨f', σ', n', L', ?_, h2, h3⟩
  rw [← h1]
  simp only [opsV, stepI, insV, h, Option.map_some, Option.bind_some, put_E]

/-- A step that changes what is known of the heap. -/
theorem WO_h {l : List I} {d : Option Nat} {i : HIns} {v : V} {n' : Nat} {L' : HA} (h : ∀ σ, Hp σ n L → ∃ σ', heapV (Run A) i (E N f) σ = some (v, σ') ∧ Hp σ' n' L') (k : WO A N l (updO f d v) n' L' K) : WO A N (⟨d, none, .h i⟩ :: l) f n L K := fun σ hσ => by
  obtain ⟨σ1, h1, h2⟩ := h σ hσ
  obtain ⟨f', σ', n', L', h3, h4, h5⟩ := k σ1 h2
  refine ⟨f', σ', n', L', ?_, h4, h5⟩
  rw [← h3]
  simp only [opsV, stepI, insV, h1, Option.map_some, Option.bind_some, put_E]

end

/-! ### Functions -/

def known : Nat → List Blk → HA
  | _, [] => []
  | k, b :: l => (k, b) :: known (k + 1) l

theorem known_lt : ∀ (l : List Blk) (k : Nat), ∀ p ∈ known k l, k ≤ p.1
  | b :: l, k, p, hp => by
    rcases List.mem_cons.1 hp with he | hp
    · subst he; exact Nat.le_refl _
    · have := known_lt l (k + 1) p hp; omega

theorem HL_known (σ : Heap) : ∀ (l : List Blk) (k : Nat), (∀ i b, l[i]? = some b → σ[k + i]? = some b) → k + l.length = σ.length → HL σ σ.length (known k l)
  | [], _, _, _ => trivial
  | b :: l, k, h, hl => ⟨by simp at hl; omega, h 0 b rfl, fun p hp => by have := known_lt l (k + 1) p hp; omega, HL_known σ l (k + 1) (fun i c hc => by rw [show k + 1 + i = k + (i + 1) by omega]; exact h (i + 1) c hc) (by simp at hl; omega)⟩

theorem Hp_known (σ : Heap) : Hp σ σ.length (known 0 σ) := ⟨rfl, HL_known σ σ 0 (fun i b h => by simpa using h) (by simp)⟩

abbrev KR := V → Nat → HA → Prop

/-- What a call leads to, over these blocks. -/
def WR (A : AP) (fid : FuncId) (as : List V) (Bs : List Blk) (K : KR) : Prop :=
  ∃ v σ' n' L', Run A fid as Bs = some (v, σ') ∧ Hp σ' n' L' ∧ K v n' L'

/-- What is read behind a run, as the results. -/
def RS (N : Nat) (f : FE) (L : HA) : List Rv → List V → Prop
  | [], [] => True
  | .tmp t :: l, v :: vs => rd N f t = v ∧ RS N f L l vs
  | .cell a agg m :: l, v :: vs => (∃ b o z md k g, rd N f a = .ptr b o z ∧ m ≤ z ∧ (b, Blk.sc md k g) ∈ L ∧ v = bif agg then .agg m (fun i => g (o + i)) else .s (g o)) ∧ RS N f L l vs
  | _, _ => False

theorem resL_RS {N : Nat} {f : FE} {n : Nat} {L : HA} {σ : Heap} (h : Hp σ n L) : ∀ {rs : List Rv} {vs : List V}, RS N f L rs vs → resL (E N f) σ rs = some vs
  | [], [], _ => rfl
  | .tmp t :: l, v :: vs, hr => by
    simp only [resL, resV, getD_E, hr.1, resL_RS h hr.2]
  | .cell a agg m :: l, v :: vs, hr => by
    obtain ⟨⟨b, o, z, md, k, g, h1, h2, h3, h4⟩, h5⟩ := hr
    simp only [resL, resV, getD_E, h1, if_pos h2, rdV, (h.2.mem h3).2, resL_RS h h5, h4]

theorem RS_cell {N : Nat} {f : FE} {L : HA} {a b m z : Nat} {md : Md} {k : Nat} {g : Nat → S} {l : List Rv} {vs : List V} (h : rd N f a = .ptr b 0 z) (hz : Nat.ble m z = true) (hm : (b, Blk.sc md k g) ∈ L) (hr : RS N f L l vs) : RS N f L (.cell a true m :: l) (.agg m g :: vs) :=
  ⟨⟨b, 0, z, md, k, g, h, Nat.le_of_ble_eq_true hz, hm, by simp⟩, hr⟩

theorem RS_cell1 {N : Nat} {f : FE} {L : HA} {a b m z : Nat} {md : Md} {k : Nat} {g : Nat → S} {x : S} {l : List Rv} {vs : List V} (h : rd N f a = .ptr b 0 z) (hz : Nat.ble m z = true) (hm : (b, Blk.sc md k g) ∈ L) (hx : g 0 = x) (hr : RS N f L l vs) : RS N f L (.cell a false m :: l) (.s x :: vs) :=
  ⟨⟨b, 0, z, md, k, g, h, Nat.le_of_ble_eq_true hz, hm, by simp [hx]⟩, hr⟩

theorem RS_tmp {N : Nat} {f : FE} {L : HA} {t : Nat} {v : V} {l : List Rv} {vs : List V} (h : rd N f t = v) (hr : RS N f L l vs) : RS N f L (.tmp t :: l) (v :: vs) := ⟨h, hr⟩
theorem RS_nil {N : Nat} {f : FE} {L : HA} : RS N f L [] [] := trivial

def retV : List V → V
  | [x] => x
  | l => .tup l

theorem WR_fn {A : AP} {fid : FuncId} {a : AF} {as : List V} {Bs : List Blk} {K : KR} (hp : A.prims fid = none) (ha : A.fns fid = some a) (f : FE) (hf : entry a as = E a.nt f) {m : Nat} (hm : Bs.length = m)
    (h : WP A a.nt a.body f m (known 0 Bs) (fun f n L => ∃ vs, RS a.nt f L a.res vs ∧ K (retV vs) n L) (fun _ _ _ _ => False) (fun f n L => ∃ vs, RS a.nt f L a.res vs ∧ K (retV vs) n L)) : WR A fid as Bs K := by
  subst hm
  obtain ⟨x, f', σ', n', L', h1, h2, h3⟩ := h Bs (Hp_known Bs)
  have fin : ∀ vs, RS a.nt f' L' a.res vs → resOf (E a.nt f') σ' a.res = some (retV vs) := by
    intro vs hvs
    unfold resOf
    rw [resL_RS h2 hvs]
    match vs with
    | [] => rfl
    | [x] => rfl
    | x :: y :: l => rfl
  cases x with
  | normal =>
    obtain ⟨vs, hvs, hK⟩ := h3
    exact ⟨retV vs, σ', n', L', by rw [Run_fn hp ha, hf, h1]; simp [finish, fin vs hvs], h2, hK⟩
  | ret =>
    obtain ⟨vs, hvs, hK⟩ := h3
    exact ⟨retV vs, σ', n', L', by rw [Run_fn hp ha, hf, h1]; simp [finish, fin vs hvs], h2, hK⟩
  | exit j => exact h3.elim

/-- The cells that a run begins with. -/
def entryF (as : List V) : FE := fun i => as.getD i .undef

theorem entry_E {a : AF} {as : List V} (h : as.length ≤ a.nt) : entry a as = E a.nt (entryF as) := by
  unfold entry E entryF
  refine List.ext_getElem (by simp; omega) fun i h1 h2 => ?_
  simp only [List.getElem_map, List.getElem_range]
  by_cases hi : i < as.length
  · rw [List.getElem_append_left hi, List.getD_eq_getElem?_getD, List.getElem?_eq_getElem hi]; rfl
  · rw [List.getElem_append_right (by omega), List.getD_eq_getElem?_getD, List.getElem?_eq_none (by omega)]; simp

end Go.Am
