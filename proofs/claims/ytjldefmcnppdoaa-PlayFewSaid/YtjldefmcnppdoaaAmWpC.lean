/- The abstract machine by assertions: calls. -/
import Derived.Test.YtjldefmcnppdoaaAmWpH
namespace Go.Am
open Go

mutual
/-- No block is named. -/
def V.loose : V → Bool
  | .ptr _ _ _ => false
  | .sl _ _ _ _ _ => false
  | .map _ => false
  | .aggv l => V.looseL l
  | .fn _ l => V.looseL l
  | .tup l => V.looseL l
  | .iface _ x => V.loose x
  | _ => true
def V.looseL : List V → Bool
  | [] => true
  | x :: l => V.loose x && V.looseL l
end

mutual
theorem V.loose_refs : ∀ (v : V), v.loose = true → v.refs = []
  | .s _, _ => by simp [V.refs]
  | .agg _ _, _ => by simp [V.refs]
  | .aggv l, h => by simp only [V.loose] at h; simp only [V.refs]; exact V.looseL_refs l h
  | .ptr _ _ _, h => by simp [V.loose] at h
  | .pnil, _ => by simp [V.refs]
  | .sl _ _ _ _ _, h => by simp [V.loose] at h
  | .slz, _ => by simp [V.refs]
  | .snil, _ => by simp [V.refs]
  | .map _, h => by simp [V.loose] at h
  | .mnil, _ => by simp [V.refs]
  | .fn _ l, h => by simp only [V.loose] at h; simp only [V.refs]; exact V.looseL_refs l h
  | .fnil, _ => by simp [V.refs]
  | .iface _ x, h => by simp only [V.loose] at h; simp only [V.refs]; exact V.loose_refs x h
  | .inil, _ => by simp [V.refs]
  | .tup l, h => by simp only [V.loose] at h; simp only [V.refs]; exact V.looseL_refs l h
  | .undef, _ => by simp [V.refs]
theorem V.looseL_refs : ∀ (l : List V), V.looseL l = true → V.refsL l = []
  | [], _ => by simp [V.refsL]
  | x :: l, h => by
    simp only [V.looseL, Bool.and_eq_true] at h
    simp only [V.refsL, V.loose_refs x h.1, V.looseL_refs l h.2, List.append_nil]
end

mutual
theorem V.loose_ren (g : Nat → Option Nat) : ∀ (v : V), v.loose = true → v.ren g = some v
  | .s _, _ => by simp [V.ren]
  | .agg _ _, _ => by simp [V.ren]
  | .aggv l, h => by simp only [V.loose] at h; simp only [V.ren, V.looseL_ren g l h, Option.map_some]
  | .ptr _ _ _, h => by simp [V.loose] at h
  | .pnil, _ => by simp [V.ren]
  | .sl _ _ _ _ _, h => by simp [V.loose] at h
  | .slz, _ => by simp [V.ren]
  | .snil, _ => by simp [V.ren]
  | .map _, h => by simp [V.loose] at h
  | .mnil, _ => by simp [V.ren]
  | .fn _ l, h => by simp only [V.loose] at h; simp only [V.ren, V.looseL_ren g l h, Option.map_some]
  | .fnil, _ => by simp [V.ren]
  | .iface _ x, h => by simp only [V.loose] at h; simp only [V.ren, V.loose_ren g x h, Option.map_some]
  | .inil, _ => by simp [V.ren]
  | .tup l, h => by simp only [V.loose] at h; simp only [V.ren, V.looseL_ren g l h, Option.map_some]
  | .undef, _ => by simp [V.ren]
theorem V.looseL_ren (g : Nat → Option Nat) : ∀ (l : List V), V.looseL l = true → V.renL g l = some l
  | [], _ => by simp [V.renL]
  | x :: l, h => by
    simp only [V.looseL, Bool.and_eq_true] at h
    simp only [V.renL, V.loose_ren g x h.1, V.looseL_ren g l h.2]
end

theorem reach_nil (σ : Heap) (acc : List Nat) : ∀ k, reach σ k [] acc = acc
  | 0 => rfl
  | _ + 1 => rfl

/-- A call of flat values that answers a flat value. -/
theorem call_flat {A : AP} {q : Bool} {fid : FuncId} {av : List V} {v : V} (ha : V.looseL av = true) (hv : v.loose = true) {σ1 : Heap} (hr : Run A fid av [] = some (v, σ1)) (σ : Heap) : callWith (Run A) q (.fn fid []) av σ = some (v, σ) := by
  have hrefs : V.refsL (av ++ []) = [] := by rw [List.append_nil]; exact V.looseL_refs av ha
  have hen : enterC q (av ++ []) σ = some ([], av, []) := by
    unfold enterC
    rw [List.append_nil] at hrefs ⊢
    simp only [hrefs, reach_nil, V.looseL_ren _ av ha, pickB]
  have hns : newIds q 0 v σ1 = [] := by
    unfold newIds
    cases q <;> simp [V.loose_refs v hv, reach_nil]
  simp only [callWith, hen, Option.bind_some, hr, leaveC, List.length_nil, hns]
  have hb0 : Nat.ble 0 σ1.length = true := rfl
  cases q <;> simp [nodup, V.loose_ren _ v hv, pickB, putB, hb0]

/-- A function of flat values: what it answers. -/
def RF (A : AP) (fid : FuncId) (av : List V) (v : V) : Prop := ∃ σ1, Run A fid av [] = some (v, σ1)

theorem RF_of {A : AP} {fid : FuncId} {av : List V} {v : V} (h : WR A fid av [] fun v' _ _ => v' = v) : RF A fid av v := by
  obtain ⟨v', σ', n', L', h1, _, h2⟩ := h
  subst h2
  exact ⟨σ', h1⟩

section
variable {A : AP} {N : Nat} {f : FE} {n : Nat} {L : HA} {K : KN} {l : List I} {d : Nat}

theorem WO_call0 {x : O} {xs : List O} {fid : FuncId} {av : List V} {v : V} (hf : x.fv N f = .fn fid []) (hs : RF A fid av v) (ha : xs.map (O.fv N f) = av) (h1 : V.looseL av = true) (h2 : v.loose = true)
    (k : WO A N l (upd f d v) n L K) : WO A N (⟨some d, none, .h (.call x xs)⟩ :: l) f n L K := by
  obtain ⟨σ1, hs⟩ := hs
  exact WO_h (v := v) (fun σ h => ⟨σ, by simp only [heapV, ev_E, hf, ha]; exact call_flat h1 h2 hs σ, h⟩) k

theorem WO_callq0 {x : O} {xs : List O} {fid : FuncId} {av : List V} {v : V} (hf : x.fv N f = .fn fid []) (hs : RF A fid av v) (ha : xs.map (O.fv N f) = av) (h1 : V.looseL av = true) (h2 : v.loose = true)
    (k : WO A N l (upd f d v) n L K) : WO A N (⟨some d, none, .h (.callq x xs)⟩ :: l) f n L K := by
  obtain ⟨σ1, hs⟩ := hs
  exact WO_h (v := v) (fun σ h => ⟨σ, by simp only [heapV, ev_E, hf, ha]; exact call_flat h1 h2 hs σ, h⟩) k

/-! ### Calls that are handed blocks of scalar cells -/

/-- Values, with the blocks they name told by place in rs. -/
def rnL (rs : List Nat) (av : List V) : Option (List V) := V.renL (pos · rs) av

/-- These blocks, of scalar cells all, are known. -/
def scs (L : HA) : List Nat → List Blk → Prop
  | [], [] => True
  | b :: rs, B :: Bs => (b, B) ∈ L ∧ (∃ md m g, B = .sc md m g) ∧ scs L rs Bs
  | _, _ => False

/-- The names, each once, in the order of their first standing. -/
def dedup : List Nat → List Nat → List Nat
  | [], acc => acc
  | b :: l, acc => bif acc.contains b then dedup l acc else dedup l (acc ++ [b])

theorem scs_mem {σ : Heap} {n : Nat} {L : HA} (h : Hp σ n L) : ∀ {rs : List Nat} {Bs : List Blk}, scs L rs Bs → ∀ b ∈ rs, b < n ∧ ∃ md m g, σ[b]? = some (.sc md m g)
  | b :: rs, B :: Bs, hs, c, hc => by
    obtain ⟨h1, ⟨md, m, g, rfl⟩, h2⟩ := hs
    rcases List.mem_cons.1 hc with e | hc
    · subst e
      have := h.2.mem h1
      exact ⟨this.1, md, m, g, this.2⟩
    · exact scs_mem h h2 c hc

theorem reach_sc {σ : Heap} : ∀ (k : Nat) (w acc : List Nat), (∀ b ∈ w, ∃ md m g, σ[b]? = some (.sc md m g)) → w.length < k → reach σ k w acc = dedup w acc
  | 0, _, _, _, h => by omega
  | k + 1, [], acc, _, _ => rfl
  | k + 1, b :: w, acc, hs, hl => by
    obtain ⟨md, m, g, hb⟩ := hs b (.head _)
    have hd : σ.getD b .dead = .sc md m g := by rw [List.getD_eq_getElem?_getD, hb]; rfl
    simp only [reach, dedup, hd, Blk.refs, List.nil_append]
    simp only [List.length_cons] at hl
    cases acc.contains b
    · simp only [cond_false]
      exact reach_sc k w (acc ++ [b]) (fun c hc => hs c (.tail _ hc)) (by omega)
    · simp only [cond_true]
      exact reach_sc k w acc (fun c hc => hs c (.tail _ hc)) (by omega)

/-- A block of scalar cells, av a callee that may not write sees it. -/
def lowB (q : Bool) : Blk → Blk
  | .sc md m g => .sc (lower q md) m g
  | b => b

theorem pick_scs {σ : Heap} {n : Nat} {L : HA} (h : Hp σ n L) (q : Bool) (g : Nat → Option Nat) : ∀ {rs : List Nat} {Bs : List Blk}, scs L rs Bs → pickB q g σ rs = some (Bs.map (lowB q))
  | [], [], _ => rfl
  | b :: rs, B :: Bs, hs => by
    obtain ⟨h1, ⟨md, m, g', rfl⟩, h2⟩ := hs
    simp only [pickB, (h.2.mem h1).2, Option.bind_some, Blk.ren, pick_scs h q g h2, List.map_cons, lowB]

theorem nodup_of {rs : List Nat} (h : rs.Nodup) : nodup rs = true := by
  induction rs with
  | nil => rfl
  | cons b l ih =>
    rw [List.nodup_cons] at h
    simp [nodup, ih h.2, h.1]

theorem dedup_nodup : ∀ (w acc : List Nat), acc.Nodup → (dedup w acc).Nodup
  | [], acc, h => h
  | b :: w, acc, h => by
    unfold dedup
    cases hc : acc.contains b with
    | true => exact dedup_nodup w acc h
    | false =>
      refine dedup_nodup w _ ?_
      rw [List.nodup_append]
      refine ⟨h, by simp, fun a ha c hc' => ?_⟩
      simp only [List.mem_singleton] at hc'
      subst hc'
      intro e
      subst e
      rw [List.contains_iff_mem.2 ha] at hc
      cases hc

/-- What is known of the first blocks behind a run: av before, or laid anew. -/
def after (σ1 : Heap) : Nat → List Blk → Prop
  | _, [] => True
  | k, B :: Bs => σ1[k]? = some B ∧ (∃ md m g, B = .sc md m g) ∧ after σ1 (k + 1) Bs

/-- Facts of the caller with the blocks av the callee leaves them. -/
inductive AtL : List Nat → List Blk → List Blk → HA → HA → Prop
  | nil {L : HA} : AtL [] [] [] L L
  | cons {b : Nat} {rs : List Nat} {B B' : Blk} {Bs Bs' : List Blk} {L L' L'' : HA} : At b B B' L L' → AtL rs Bs Bs' L' L'' → AtL (b :: rs) (B :: Bs) (B' :: Bs') L L''

theorem Hp.putL {rs : List Nat} {Bs Bs' : List Blk} {L L' : HA} (ha : AtL rs Bs Bs' L L') : ∀ {σ : Heap} {n : Nat}, Hp σ n L → Hp (putB σ rs Bs') n L' := by
  induction ha with
  | nil => exact fun h => h
  | cons h1 _ ih => exact fun h => ih (h.set h1)

theorem after_len {σ1 : Heap} : ∀ {Bs : List Blk} {k : Nat}, after σ1 k Bs → k ≤ σ1.length → k + Bs.length ≤ σ1.length
  | [], k, _, h => h
  | B :: Bs, k, ha, h => by
    have h1 : k < σ1.length := by
      rcases Nat.lt_or_ge k σ1.length with h | h
      · exact h
      · have h0 := ha.1
        rw [List.getElem?_eq_none h] at h0; simp at h0
    have := after_len ha.2.2 h1
    simp only [List.length_cons]; omega

theorem pick_after {σ1 : Heap} (g : Nat → Option Nat) : ∀ {Bs : List Blk} {k : Nat}, after σ1 k Bs → pickB false g σ1 (List.range' k Bs.length) = some Bs
  | [], k, _ => rfl
  | B :: Bs, k, h => by
    obtain ⟨h1, ⟨md, m, g', rfl⟩, h2⟩ := h
    simp only [List.length_cons, List.range'_succ, pickB, h1, Option.bind_some, Blk.ren, lower, cond_false, pick_after g h2]

theorem take_refs {σ1 : Heap} : ∀ {Bs : List Blk} {k : Nat}, after σ1 k Bs → ((σ1.drop k).take Bs.length).flatMap Blk.refs = []
  | [], k, _ => by simp
  | B :: Bs, k, h => by
    obtain ⟨h1, ⟨md, m, g', rfl⟩, h2⟩ := h
    have hk : k < σ1.length := by
      rcases Nat.lt_or_ge k σ1.length with h | h
      · exact h
      · rw [List.getElem?_eq_none h] at h1; simp at h1
    rw [List.drop_eq_getElem_cons hk, List.length_cons, List.take_succ_cons, List.flatMap_cons, take_refs h2]
    rw [List.getElem?_eq_getElem hk] at h1
    injection h1 with h1
    rw [h1]; rfl

/-- A call over blocks of scalar cells that answers a flat value. -/
theorem call_sc {fid : FuncId} {av av' : List V} {rs : List Nat} {Bs Bs' : List Blk} {v : V} {σ1 : Heap} {L' : HA} (hrs : dedup (V.refsL av) [] = rs) (hl : (V.refsL av).length < 64) (hsub : ∀ b ∈ V.refsL av, b ∈ rs) (hren : rnL rs av = some av') (hB : scs L rs Bs) (hv : v.loose = true)
    (hr : Run A fid av' (Bs.map (lowB false)) = some (v, σ1)) (ha : after σ1 0 Bs') (hlen : Bs'.length = rs.length) (hat : AtL rs Bs Bs' L L') {σ : Heap} (h : Hp σ n L) : ∃ σ', callWith (Run A) false (.fn fid []) av σ = some (v, σ') ∧ Hp σ' n L' := by
  have hre : reach σ 64 (V.refsL av) [] = rs := by
    rw [reach_sc 64 _ _ (fun b hb => (scs_mem h hB b (hsub b hb)).2) hl, hrs]
  have hen : enterC false av σ = some (rs, av', Bs.map (lowB false)) := by
    unfold enterC
    simp only [hre, pick_scs h false _ hB]
    unfold rnL at hren
    rw [hren]
  have hle : rs.length ≤ σ1.length := by have := after_len ha (Nat.zero_le _); omega
  have hns : newIds false rs.length v σ1 = [] := by
    unfold newIds
    have := take_refs ha
    rw [List.drop_zero, hlen] at this
    simp [V.loose_refs v hv, this, reach_nil]
  refine ⟨putB σ rs Bs', ?_, h.putL hat⟩
  have hnd : nodup rs = true := nodup_of (by rw [← hrs]; exact dedup_nodup _ _ (by simp))
  have hp : pickB false (backF rs [] σ.length rs.length) σ1 (List.range rs.length) = some Bs' := by
    rw [← hlen, List.range_eq_range']
    exact pick_after _ ha
  have hble : Nat.ble rs.length σ1.length = true := Nat.ble_eq_true_of_le hle
  simp only [callWith, List.append_nil, hen, Option.bind_some, hr, leaveC, hns, hnd, hble, nodup, Bool.and_self, cond_true, V.loose_ren _ v hv, pickB, cond_false, hp]

/-- The same, where the callee may not write. -/
theorem callq_sc {fid : FuncId} {av av' : List V} {rs : List Nat} {Bs : List Blk} {v : V} {σ1 : Heap} (hrs : dedup (V.refsL av) [] = rs) (hl : (V.refsL av).length < 64) (hsub : ∀ b ∈ V.refsL av, b ∈ rs) (hren : rnL rs av = some av') (hB : scs L rs Bs) (hv : v.loose = true)
    (hr : Run A fid av' (Bs.map (lowB true)) = some (v, σ1)) (hle : rs.length ≤ σ1.length) {σ : Heap} (h : Hp σ n L) : ∃ σ', callWith (Run A) true (.fn fid []) av σ = some (v, σ') ∧ Hp σ' n L := by
  have hre : reach σ 64 (V.refsL av) [] = rs := by
    rw [reach_sc 64 _ _ (fun b hb => (scs_mem h hB b (hsub b hb)).2) hl, hrs]
  have hen : enterC true av σ = some (rs, av', Bs.map (lowB true)) := by
    unfold enterC
    simp only [hre, pick_scs h true _ hB]
    unfold rnL at hren
    rw [hren]
  have hns : newIds true rs.length v σ1 = [] := by
    unfold newIds
    simp [V.loose_refs v hv, reach_nil]
  have hnd : nodup rs = true := nodup_of (by rw [← hrs]; exact dedup_nodup _ _ (by simp))
  have hble : Nat.ble rs.length σ1.length = true := Nat.ble_eq_true_of_le hle
  refine ⟨σ, ?_, h⟩
  simp only [callWith, List.append_nil, hen, Option.bind_some, hr, leaveC, hns, hnd, hble, nodup, Bool.and_self, cond_true, V.loose_ren _ v hv, pickB]

end

/-- A run over blocks of scalar cells: its flat answer, and how it leaves the blocks. -/
def RB (A : AP) (fid : FuncId) (av : List V) (Bs : List Blk) (v : V) (Bs' : List Blk) : Prop := ∃ σ1, Run A fid av Bs = some (v, σ1) ∧ after σ1 0 Bs'

section
variable {A : AP} {N : Nat} {f : FE} {n : Nat} {L : HA} {K : KN} {l : List I} {d : Nat}

theorem after_of {σ : Heap} {n : Nat} {L : HA} (h : Hp σ n L) : ∀ {Bs : List Blk} {k : Nat}, (∀ i B, Bs[i]? = some B → (k + i, B) ∈ L ∧ ∃ md m g, B = .sc md m g) → after σ k Bs
  | [], _, _ => trivial
  | B :: Bs, k, hm => ⟨(h.2.mem (hm 0 B rfl).1).2, (hm 0 B rfl).2, after_of h fun i C hC => by rw [show k + 1 + i = k + (i + 1) by omega]; exact hm (i + 1) C hC⟩

theorem RB_of1 {fid : FuncId} {av : List V} {B : Blk} {v : V} {md : Md} {m : Nat} {g : Nat → S} (h : WR A fid av [B] fun v' _ L' => v' = v ∧ (0, Blk.sc md m g) ∈ L') : RB A fid av [B] v [.sc md m g] := by
  obtain ⟨v', σ', n', L', h1, h2, rfl, h3⟩ := h
  exact ⟨σ', h1, (h2.2.mem h3).2, ⟨md, m, g, rfl⟩, trivial⟩

theorem RB_of2 {fid : FuncId} {av : List V} {B C : Blk} {v : V} {md md' : Md} {m m' : Nat} {g g' : Nat → S} (h : WR A fid av [B, C] fun v' _ L' => v' = v ∧ (0, Blk.sc md m g) ∈ L' ∧ (1, Blk.sc md' m' g') ∈ L') : RB A fid av [B, C] v [.sc md m g, .sc md' m' g'] := by
  obtain ⟨v', σ', n', L', h1, h2, rfl, h3, h4⟩ := h
  exact ⟨σ', h1, (h2.2.mem h3).2, ⟨md, m, g, rfl⟩, (h2.2.mem h4).2, ⟨md', m', g', rfl⟩, trivial⟩

theorem WO_call {x : O} {xs : List O} {fid : FuncId} {av av' : List V} {rs : List Nat} {Bs Bs' : List Blk} {v : V} {L' : HA} (hf : x.fv N f = .fn fid []) (hs : RB A fid av' Bs v Bs') (ha : xs.map (O.fv N f) = av) (hrs : dedup (V.refsL av) [] = rs) (hl : (V.refsL av).length < 64) (hsub : ∀ b ∈ V.refsL av, b ∈ rs)
    (hren : rnL rs av = some av') (hB : scs L rs Bs) (hlow : Bs.map (lowB false) = Bs) (hlen : Bs'.length = rs.length) (hv : v.loose = true) (hat : AtL rs Bs Bs' L L') (k : WO A N l (upd f d v) n L' K) : WO A N (⟨some d, none, .h (.call x xs)⟩ :: l) f n L K := by
  obtain ⟨σ1, hs, haf⟩ := hs
  refine WO_h (v := v) (fun σ h => ?_) k
  simp only [heapV, ev_E, hf, ha]
  exact call_sc hrs hl hsub hren hB hv (by rw [hlow]; exact hs) haf hlen hat h

theorem WO_callq {x : O} {xs : List O} {fid : FuncId} {av av' : List V} {rs : List Nat} {Bs Bs0 Bs' : List Blk} {v : V} (hf : x.fv N f = .fn fid []) (hs : RB A fid av' Bs0 v Bs') (ha : xs.map (O.fv N f) = av) (hrs : dedup (V.refsL av) [] = rs) (hl : (V.refsL av).length < 64) (hsub : ∀ b ∈ V.refsL av, b ∈ rs)
    (hren : rnL rs av = some av') (hB : scs L rs Bs) (hlow : Bs.map (lowB true) = Bs0) (hlen : Bs'.length = rs.length) (hv : v.loose = true) (k : WO A N l (upd f d v) n L K) : WO A N (⟨some d, none, .h (.callq x xs)⟩ :: l) f n L K := by
  obtain ⟨σ1, hs, haf⟩ := hs
  refine WO_h (v := v) (fun σ h => ?_) k
  simp only [heapV, ev_E, hf, ha]
  have := after_len haf (Nat.zero_le _)
  exact callq_sc hrs hl hsub hren hB hv (by rw [hlow]; exact hs) (by omega) h

/-- A call that is handed one pointer to a block of scalar cells, and values that name none. -/
theorem WO_callP {x : O} {xs : List O} {fid : FuncId} {b z m m' : Nat} {rest : List V} {md md' : Md} {g g' : Nat → S} {v : V} {L' : HA} (hf : x.fv N f = .fn fid []) (hs : RB A fid (.ptr 0 0 z :: rest) [.sc md m g] v [.sc md' m' g']) (ha : xs.map (O.fv N f) = .ptr b 0 z :: rest) (h1 : V.looseL rest = true) (h2 : v.loose = true)
    (hat : At b (.sc md m g) (.sc md' m' g') L L') (k : WO A N l (upd f d v) n L' K) : WO A N (⟨some d, none, .h (.call x xs)⟩ :: l) f n L K := by
  have hr : V.refsL (.ptr b 0 z :: rest) = [b] := by simp only [V.refsL, V.refs, V.looseL_refs rest h1, List.append_nil]
  refine WO_call (rs := [b]) (Bs := [.sc md m g]) hf hs ha (by rw [hr]; rfl) (by rw [hr]; simp) (by rw [hr]; exact fun _ h => h) ?_ ⟨hat.mem, ⟨md, m, g, rfl⟩, trivial⟩ rfl rfl h2 (.cons hat .nil) k
  simp only [rnL, V.renL, V.ren, pos, V.looseL_ren _ rest h1, beq_self_eq_true, cond_true, Option.map_some]

end
end Go.Am
