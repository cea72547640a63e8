/- The abstract machine by assertions: calls that answer a new block, calls of closures, maps. -/
import Derived.Test.YtjldefmcnppdoaaAmWpC
namespace Go.Am
open Go

/-- A run over blocks of scalar cells that answers one new block, in a value mk. -/
def RN (A : AP) (fid : FuncId) (av : List V) (Bs : List Blk) (mk : Nat → V) (B : Blk) (Bs' : List Blk) : Prop :=
  ∃ b σ1, Run A fid av Bs = some (mk b, σ1) ∧ Bs.length ≤ b ∧ σ1[b]? = some B ∧ after σ1 0 Bs'

/-- A value that names one block, once. -/
structure One (mk : Nat → V) : Prop where
  refs : ∀ b, (mk b).refs = [b]
  ren : ∀ g b, (mk b).ren g = (g b).map mk

theorem One_ptr {o z : Nat} : One fun b => .ptr b o z := ⟨fun _ => by simp [V.refs], fun _ _ => by simp [V.ren]⟩
theorem One_sl {o m z : Nat} {c : Cp} : One fun b => .sl b o m z c := ⟨fun _ => by simp [V.refs], fun _ _ => by simp [V.ren]⟩
theorem One_ptrS {o z : Nat} {x : S} : One fun b => .tup [.ptr b o z, .s x] := ⟨fun _ => by simp [V.refs, V.refsL], fun g b => by cases h : g b <;> simp [V.ren, V.renL, h]⟩

section
variable {A : AP} {N : Nat} {f : FE} {n : Nat} {L : HA} {K : KN} {l : List I} {d : Nat}

theorem new_one {mk : Nat → V} (hmk : One mk) {k b : Nat} (hb : k ≤ b) {σ1 : Heap} {md : Md} {m : Nat} {g : Nat → S} (h1 : σ1[b]? = some (.sc md m g)) {W : List Nat} (hW : W = []) :
    (reach σ1 64 ((mk b).refs ++ W) []).filter (fun b => Nat.ble k b) = [b] := by
  subst hW
  have hd : σ1.getD b .dead = .sc md m g := by rw [List.getD_eq_getElem?_getD, h1]; rfl
  rw [hmk.refs, List.append_nil]
  have : reach σ1 64 [b] [] = [b] := by
    show (bif ([] : List Nat).contains b then reach σ1 63 [] [] else reach σ1 63 ((σ1.getD b .dead).refs ++ []) ([] ++ [b])) = [b]
    rw [hd]
    rfl
  rw [this]
  simp [hb]

theorem back_one {rs : List Nat} {b n k : Nat} (hb : k ≤ b) : backF rs [b] n k b = some n := by
  have h : Nat.blt b k = false := by
    cases h : Nat.blt b k with
    | false => rfl
    | true => exact absurd (Nat.le_of_ble_eq_true h) (by omega)
  unfold backF
  rw [h]
  simp [pos]

/-- Calls of any callee, closures too: what is handed over. -/
theorem enter_sc {q : Bool} {av av' : List V} {rs : List Nat} {Bs : List Blk} (hrs : dedup (V.refsL av) [] = rs) (hl : (V.refsL av).length < 64) (hsub : ∀ b ∈ V.refsL av, b ∈ rs) (hren : rnL rs av = some av') (hB : scs L rs Bs) {σ : Heap} (h : Hp σ n L) :
    enterC q av σ = some (rs, av', Bs.map (lowB q)) := by
  have hre : reach σ 64 (V.refsL av) [] = rs := by
    rw [reach_sc 64 _ _ (fun b hb => (scs_mem h hB b (hsub b hb)).2) hl, hrs]
  unfold enterC
  simp only [hre, pick_scs h q _ hB]
  unfold rnL at hren
  rw [hren]

theorem scs_len : ∀ {rs : List Nat} {Bs : List Blk}, scs L rs Bs → rs.length = Bs.length
  | [], [], _ => rfl
  | _ :: _, _ :: _, h => by simp [scs_len h.2.2]

/-- A call over blocks of scalar cells that answers a new block. -/
theorem WO_callN {x : O} {xs : List O} {fid : FuncId} {caps av av' : List V} {rs : List Nat} {Bs Bs' : List Blk} {mk : Nat → V} {md : Md} {m : Nat} {g : Nat → S} {L' : HA} (hmk : One mk) (hf : x.fv N f = .fn fid caps) (hs : RN A fid av' Bs mk (.sc md m g) Bs') (ha : xs.map (O.fv N f) ++ caps = av) (hrs : dedup (V.refsL av) [] = rs) (hl : (V.refsL av).length < 64) (hsub : ∀ b ∈ V.refsL av, b ∈ rs)
    (hren : rnL rs av = some av') (hB : scs L rs Bs) (hlow : Bs.map (lowB false) = Bs) (hlen : Bs'.length = rs.length) (hat : AtL rs Bs Bs' L L') (k : WO A N l (upd f d (mk n)) (n + 1) ((n, .sc md m g) :: L') K) : WO A N (⟨some d, none, .h (.call x xs)⟩ :: l) f n L K := by
  obtain ⟨b, σ1, hr, hb, h1, haf⟩ := hs
  refine WO_h (v := mk n) (fun σ h => ?_) k
  have hen := enter_sc (q := false) hrs hl hsub hren hB h
  rw [hlow] at hen
  have hk := scs_len hB
  have hle : rs.length ≤ σ1.length := by have := after_len haf (Nat.zero_le _); omega
  have hns : newIds false rs.length (mk b) σ1 = [b] := by
    unfold newIds
    have := take_refs haf
    rw [List.drop_zero, hlen] at this
    exact new_one hmk (by omega) h1 (by simp [this])
  have hnd : nodup rs = true := nodup_of (by rw [← hrs]; exact dedup_nodup _ _ (by simp))
  have hp : pickB false (backF rs [b] σ.length rs.length) σ1 (List.range rs.length) = some Bs' := by
    rw [← hlen, List.range_eq_range']
    exact pick_after _ haf
  have hble : Nat.ble rs.length σ1.length = true := Nat.ble_eq_true_of_le hle
  have hre : (mk b).ren (backF rs [b] σ.length rs.length) = some (mk n) := by
    rw [hmk.ren, back_one (by omega), h.1]; rfl
  refine ⟨putB σ rs Bs' ++ [.sc md m g], ?_, (h.putL hat).new _⟩
  simp only [heapV, ev_E, hf, callWith, ha, hen, Option.bind_some, hr, leaveC, hns, hnd, hble, nodup, Bool.and_self, cond_true, hre, pickB, h1, Blk.ren, lower, cond_false, hp, List.contains_nil, Bool.not_false]

/-- The same, where the callee may not write. -/
theorem WO_callqN {x : O} {xs : List O} {fid : FuncId} {caps av av' : List V} {rs : List Nat} {Bs Bs0 Bs' : List Blk} {mk : Nat → V} {md : Md} {m : Nat} {g : Nat → S} (hmk : One mk) (hf : x.fv N f = .fn fid caps) (hs : RN A fid av' Bs0 mk (.sc md m g) Bs') (ha : xs.map (O.fv N f) ++ caps = av) (hrs : dedup (V.refsL av) [] = rs) (hl : (V.refsL av).length < 64) (hsub : ∀ b ∈ V.refsL av, b ∈ rs)
    (hren : rnL rs av = some av') (hB : scs L rs Bs) (hlow : Bs.map (lowB true) = Bs0) (hlen : Bs'.length = rs.length) (k : WO A N l (upd f d (mk n)) (n + 1) ((n, .sc md m g) :: L) K) : WO A N (⟨some d, none, .h (.callq x xs)⟩ :: l) f n L K := by
  obtain ⟨b, σ1, hr, hb, h1, haf⟩ := hs
  refine WO_h (v := mk n) (fun σ h => ?_) k
  have hen := enter_sc (q := true) hrs hl hsub hren hB h
  rw [hlow] at hen
  have hk := scs_len hB
  have hk0 : Bs0.length = Bs.length := by rw [← hlow, List.length_map]
  have hle : rs.length ≤ σ1.length := by have := after_len haf (Nat.zero_le _); omega
  have hns : newIds true rs.length (mk b) σ1 = [b] := by
    unfold newIds
    exact new_one hmk (by omega) h1 (by simp)
  have hnd : nodup rs = true := nodup_of (by rw [← hrs]; exact dedup_nodup _ _ (by simp))
  have hble : Nat.ble rs.length σ1.length = true := Nat.ble_eq_true_of_le hle
  have hre : (mk b).ren (backF rs [b] σ.length rs.length) = some (mk n) := by
    rw [hmk.ren, back_one (by omega), h.1]; rfl
  refine ⟨σ ++ [.sc md m g], ?_, h.new _⟩
  simp only [heapV, ev_E, hf, callWith, ha, hen, Option.bind_some, hr, leaveC, hns, hnd, hble, nodup, Bool.and_self, cond_true, hre, pickB, h1, Blk.ren, lower, cond_false, List.contains_nil, Bool.not_false]

/-- A call of a closure, over blocks of scalar cells, that answers a flat value. -/
theorem WO_callC {x : O} {xs : List O} {fid : FuncId} {caps av av' : List V} {rs : List Nat} {Bs Bs' : List Blk} {v : V} {L' : HA} (hf : x.fv N f = .fn fid caps) (hs : RB A fid av' Bs v Bs') (ha : xs.map (O.fv N f) ++ caps = av) (hrs : dedup (V.refsL av) [] = rs) (hl : (V.refsL av).length < 64) (hsub : ∀ b ∈ V.refsL av, b ∈ rs)
    (hren : rnL rs av = some av') (hB : scs L rs Bs) (hlow : Bs.map (lowB false) = Bs) (hlen : Bs'.length = rs.length) (hv : v.loose = true) (hat : AtL rs Bs Bs' L L') (k : WO A N l (upd f d v) n L' K) : WO A N (⟨some d, none, .h (.call x xs)⟩ :: l) f n L K := by
  obtain ⟨σ1, hs, haf⟩ := hs
  refine WO_h (v := v) (fun σ h => ?_) k
  have hl' : (V.refsL av).length < 64 := hl
  have := call_sc (A := A) (fid := fid) hrs hl' hsub hren hB hv (by rw [hlow]; exact hs) haf hlen hat h
  simp only [heapV, ev_E, hf, callWith, ha]
  simp only [callWith, List.append_nil] at this
  exact this

theorem WO_callqC {x : O} {xs : List O} {fid : FuncId} {caps av av' : List V} {rs : List Nat} {Bs Bs0 Bs' : List Blk} {v : V} (hf : x.fv N f = .fn fid caps) (hs : RB A fid av' Bs0 v Bs') (ha : xs.map (O.fv N f) ++ caps = av) (hrs : dedup (V.refsL av) [] = rs) (hl : (V.refsL av).length < 64) (hsub : ∀ b ∈ V.refsL av, b ∈ rs)
    (hren : rnL rs av = some av') (hB : scs L rs Bs) (hlow : Bs.map (lowB true) = Bs0) (hlen : Bs'.length = rs.length) (hv : v.loose = true) (k : WO A N l (upd f d v) n L K) : WO A N (⟨some d, none, .h (.callq x xs)⟩ :: l) f n L K := by
  obtain ⟨σ1, hs, haf⟩ := hs
  refine WO_h (v := v) (fun σ h => ?_) k
  have := after_len haf (Nat.zero_le _)
  have := callq_sc (A := A) (fid := fid) hrs hl hsub hren hB hv (by rw [hlow]; exact hs) (by omega) h
  simp only [heapV, ev_E, hf, callWith, ha]
  simp only [callWith, List.append_nil] at this
  exact this

/-- A cut between two parts. -/
theorem WP_cut {a b : AC} {X : Nat → KN} {R : KN} (I : KN) (h1 : WP A N a f n L (fun f n L => ∃ L', List.Sublist L' L ∧ I f n L') X R) (h2 : ∀ f n L, I f n L → WP A N b f n L K X R) : WP A N (.seq a b) f n L K X R :=
  WP_seq (WP_mono h1 (fun f n _ ⟨_, hs, hI⟩ => WP_sub hs (h2 f n _ hI)) (fun _ _ _ _ h => h) (fun _ _ _ h => h))

/-- A round of a loop. -/
theorem WP_unroll {b : AC} {X : Nat → KN} {R : KN} (h : WP A N b f n L (fun f n L => WP A N (.loop b) f n L K X R) X R) : WP A N (.loop b) f n L K X R := fun σ hσ => by
  obtain ⟨x, f', σ', n', L', h1, h2, h3⟩ := h σ hσ
  rw [Exec_loop]
  cases x with
  | normal =>
    obtain ⟨x, f2, σ2, n2, L2, h4, h5, h6⟩ := h3 σ' h2
    exact ⟨x, f2, σ2, n2, L2, by rw [h1, then_normal, h4], h5, h6⟩
  | exit j => exact ⟨.exit j, f', σ', n', L', by rw [h1, then_exit], h2, h3⟩
  | ret => exact ⟨.ret, f', σ', n', L', by rw [h1, then_ret], h2, h3⟩

theorem WP_unrollI {b : AC} {X : Nat → KN} {R : KN} (I : KN) (h1 : WP A N b f n L (fun f n L => ∃ L', List.Sublist L' L ∧ I f n L') X R) (h2 : ∀ f n L, I f n L → WP A N (.loop b) f n L K X R) : WP A N (.loop b) f n L K X R :=
  WP_unroll (WP_mono h1 (fun f n _ ⟨_, hs, hI⟩ => WP_sub hs (h2 f n _ hI)) (fun _ _ _ _ h => h) (fun _ _ _ h => h))

theorem RN_of0 {fid : FuncId} {av : List V} {mk : Nat → V} {md : Md} {m : Nat} {g : Nat → S} (h : WR A fid av [] fun v _ L' => ∃ b, v = mk b ∧ (b, Blk.sc md m g) ∈ L') : RN A fid av [] mk (.sc md m g) [] := by
  obtain ⟨v, σ', n', L', h1, h2, b, rfl, h3⟩ := h
  exact ⟨b, σ', h1, Nat.zero_le _, (h2.2.mem h3).2, trivial⟩

theorem RN_of1 {fid : FuncId} {av : List V} {mk : Nat → V} {md md' : Md} {m m' : Nat} {g g' : Nat → S} {B : Blk} (h : WR A fid av [B] fun v _ L' => ∃ b, v = mk b ∧ 1 ≤ b ∧ (b, Blk.sc md m g) ∈ L' ∧ (0, Blk.sc md' m' g') ∈ L') : RN A fid av [B] mk (.sc md m g) [.sc md' m' g'] := by
  obtain ⟨v, σ', n', L', h1, h2, b, rfl, hb, h3, h4⟩ := h
  exact ⟨b, σ', h1, hb, (h2.2.mem h3).2, (h2.2.mem h4).2, ⟨_, _, _, rfl⟩, trivial⟩

/-! ### Rows that grow -/

theorem WO_appendNil {z bytes m : Nat} {s x : O} {b' o' : Nat} {c : Cp} {md' : Md} {q' : Nat} {R : Nat → Int} (hs : s.fv N f = .snil) (hx : x.fv N f = .sl b' o' m z c) (hb : (b', Blk.sc md' q' (ia R)) ∈ L) (h0 : m ≠ 0) (hr : roomy m bytes = true)
    (k : WO A N l (upd f d (.sl n 0 m z .whole)) (n + 1) ((n, .sc .grow (m * z) (ia fun i => R (o' + i))) :: L) K) : WO A N (⟨some d, none, .h (.append z bytes s x)⟩ :: l) f n L K :=
  WO_h (v := .sl n 0 m z .whole) (fun σ hσ => ⟨σ ++ [.sc .grow (m * z) (ia fun i => R (o' + i))], by
    simp only [heapV, ev_E, hs, hx, appendV, srcOf, (hσ.2.mem hb).2, if_true]
    rw [if_neg h0, hr]
    simp only [cond_true, joinSrc, if_true, Option.map_some, hσ.1], hσ.new _⟩) k

theorem WO_appendW {z bytes m p : Nat} {s x : O} {b o b' o' : Nat} {c : Cp} {md' : Md} {q q' : Nat} {G R : Nat → Int} {L' : HA} (hs : s.fv N f = .sl b o p z .whole) (hx : x.fv N f = .sl b' o' m z c) (hb : (b', Blk.sc md' q' (ia R)) ∈ L) (hat : At b (.sc .grow q (ia G)) .dead L L') (hr : roomy (p + m) bytes = true)
    (k : WO A N l (upd f d (.sl n 0 (p + m) z .whole)) (n + 1) ((n, .sc .grow (p * z + m * z) (ia fun i => bif Nat.blt i (p * z) then G (o + i) else R (o' + (i - p * z)))) :: L') K) : WO A N (⟨some d, none, .h (.append z bytes s x)⟩ :: l) f n L K :=
  WO_h (v := .sl n 0 (p + m) z .whole) (fun σ hσ => ⟨kill σ b ++ [.sc .grow (p * z + m * z) (ia fun i => bif Nat.blt i (p * z) then G (o + i) else R (o' + (i - p * z)))], by
    simp only [heapV, ev_E, hs, hx, appendV, srcOf, (hσ.2.mem hb).2, (hσ.2.mem hat.mem).2, if_true, hr, cond_true, joinSrc, Option.map_some, hσ.1]
    refine congrArg some (Prod.ext rfl ?_)
    refine congrArg (fun B => kill σ b ++ [B]) ?_
    refine congrArg (Blk.sc .grow (p * z + m * z)) ?_
    funext i
    show (bif Nat.blt i (p * z) then S.int .i64 (G (o + i)) else S.int .i64 (R (o' + (i - p * z)))) = _
    show _ = S.int .i64 (bif Nat.blt i (p * z) then G (o + i) else R (o' + (i - p * z)))
    cases Nat.blt i (p * z) <;> rfl, (hσ.set hat).new _⟩) k

/-! ### Maps -/

theorem WO_mkmap (k : WO A N l (upd f d (.map n)) (n + 1) ((n, .mp .var []) :: L) K) : WO A N (⟨some d, none, .h .mkmap⟩ :: l) f n L K :=
  WO_h (v := .map n) (fun σ h => ⟨σ ++ [.mp .var []], by simp only [heapV, h.1], h.new _⟩) k

theorem WO_mput {od : Option Nat} {m k v : O} {b : Nat} {j : S} {x : V} {md : Md} {ps qs : List (S × V)} {L' : HA} (hm : m.fv N f = .map b) (hk : k.fv N f = .s j) (hv : v.fv N f = x) (hmd : md.mut = true) (hall : (ps.all (fun p => p.1.fits j) && j.fits j) = true) (hq : mput j x ps = qs)
    (hat : At b (.mp md ps) (.mp md qs) L L') (kk : WO A N l (updO f od .undef) n L' K) : WO A N (⟨od, none, .h (.mput m k v)⟩ :: l) f n L K :=
  WO_h (v := .undef) (fun σ h => ⟨σ.set b (.mp md qs), by simp only [heapV, ev_E, hm, hk, hv, (h.2.mem hat.mem).2, hmd, if_true, hall, cond_true, hq], h.set hat⟩) kk

theorem WO_mget {z : Z} {m k : O} {b : Nat} {j : S} {x : V} {md : Md} {ps : List (S × V)} (hm : m.fv N f = .map b) (hk : k.fv N f = .s j) (hat : (b, Blk.mp md ps) ∈ L) (hall : ps.all (fun p => p.1.fits j) = true) (hx : (mfind j ps).getD z.v = x)
    (kk : WO A N l (upd f d x) n L K) : WO A N (⟨some d, none, .h (.mget z false m k)⟩ :: l) f n L K :=
  WO_h (v := x) (fun σ h => ⟨σ, by
    simp only [heapV, ev_E, hm, hk, (h.2.mem hat).2, hall, cond_true]
    subst hx
    cases mfind j ps <;> rfl, h⟩) kk

end
section
variable {A : AP} {N : Nat} {f : FE} {n : Nat} {L : HA} {K : KN} {l : List I} {d : Nat}

/-- The first part of a row. -/
theorem WO_slVhi {z : Nat} {x y : O} {b o m : Nat} {c : Cp} {q : Int} (hx : x.fv N f = .sl b o m z c) (hy : y.fv N f = .s (.int .i64 q)) (hc : (match c with | .ex _ => false | _ => true) = true) (hab : 0 ≤ q ∧ q ≤ m ∧ 0 < m) (k : WO A N l (upd f d (.sl b o q.toNat z .unk)) n L K) : WO A N (⟨some d, none, .p (.slV z x none (some y))⟩ :: l) f n L K := by
  refine WO_slV (p := 0) (q := q) hx rfl (by simp only [fvb, hy, num?]) hc (by omega) ?_
  simpa using k

/-- The last part of a row. -/
theorem WO_slVlo {z : Nat} {x y : O} {b o m : Nat} {c : Cp} {p : Int} (hx : x.fv N f = .sl b o m z c) (hy : y.fv N f = .s (.int .i64 p)) (hc : (match c with | .ex _ => false | _ => true) = true) (hab : 0 ≤ p ∧ p < m) (k : WO A N l (upd f d (.sl b (o + p.toNat * z) (m - p.toNat) z .unk)) n L K) : WO A N (⟨some d, none, .p (.slV z x (some y) none)⟩ :: l) f n L K := by
  refine WO_slV (p := p) (q := m) hx (by simp only [fvb, hy, num?]) rfl hc (by omega) ?_
  simpa using k

theorem WO_slVloZ {z : Nat} {x y : O} {b o m : Nat} {c : Cp} {p : Int} (hx : x.fv N f = .sl b o m z c) (hy : y.fv N f = .s (.int .i64 p)) (hc : (match c with | .ex _ => false | _ => true) = true) (hab : p = m) (k : WO A N l (upd f d .slz) n L K) : WO A N (⟨some d, none, .p (.slV z x (some y) none)⟩ :: l) f n L K :=
  WO_slVz (p := p) (q := m) hx (by simp only [fvb, hy, num?]) rfl hc (by omega) k

/-- Nothing of nothing. -/
theorem WO_slVe {z : Nat} {x : O} {lo hi : Option O} {v : V} {p q : Int} (hx : x.fv N f = v) (hv : v = .snil ∨ v = .slz) (hl : fvb N f lo 0 = some p) (hh : fvb N f hi 0 = some q) (hab : p = 0 ∧ q = 0) (k : WO A N l (upd f d v) n L K) : WO A N (⟨some d, none, .p (.slV z x lo hi)⟩ :: l) f n L K :=
  WO_p (v := v) (by
    obtain ⟨rfl, rfl⟩ := hab
    rcases hv with rfl | rfl <;> simp only [pureV, ev_E, hx, bound_E, hl, hh]) k

theorem WO_eqaC {neg : Bool} {m : Nat} {x y : O} {P Q : Nat → Int} {b : Bool} (hx : x.fv N f = .agg m (ia P)) (hy : y.fv N f = .agg m (ia Q)) (h : (bif neg then !(eqI m P Q) else eqI m P Q) = b) (k : WO A N l (upd f d (.s (.bool b))) n L K) : WO A N (⟨some d, none, .p (.eqa neg m x y)⟩ :: l) f n L K := by
  subst h
  exact WO_eqa hx hy k
end

theorem eqI4 {P Q : Nat → Int} (h : ∀ i, i < 4 → P i = Q i) : (bif true then !(eqI 4 P Q) else eqI 4 P Q) = false := by
  rw [eqI_iff.2 h]; rfl
theorem eqI4t {P Q : Nat → Int} (h : ∀ i, i < 4 → P i = Q i) : (bif false then !(eqI 4 P Q) else eqI 4 P Q) = true := by
  rw [eqI_iff.2 h]; rfl
end Go.Am
