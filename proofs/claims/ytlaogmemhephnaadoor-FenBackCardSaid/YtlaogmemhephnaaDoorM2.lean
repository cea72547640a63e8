/- Texts of this seat, joined. -/
import Derived.Tactics
import Derived.Tactics2
import Derived.Recover
import Derived.Laws.Pointers
import Derived.KernelRfl
import Derived.Defers
import Derived.Test.YtlaogmemhephnaaDoorAm0
import Derived.Test.YtlaogmemhephnaaDoorAm1
import Derived.Test.YtlaogmemhephnaaDoorAm2
import Derived.Test.YtlaogmemhephnaaDoorM0
import Derived.Test.YtlaogmemhephnaaDoorM1
/- The plain law of texts: what is shown is read, the same. -/
set_option linter.unusedVariables false
set_option linter.unusedSimpArgs false
namespace Go.Proofs.YtlaogmemhephnaaDoor
open Go Go.Am

/-- What of a text stands from a place on. -/
def sfx (s : ByteArray) (k : Nat) : List UInt8 := s.data.toList.drop k
theorem sfx0 (s : ByteArray) : sfx s 0 = s.data.toList := rfl
theorem sfx_lt {s : ByteArray} {k : Nat} {c : UInt8} {r : List UInt8} (h : sfx s k = c :: r) : k < s.size := by
  have := congrArg List.length h
  simp only [sfx, List.length_drop, Array.length_toList, List.length_cons] at this
  show k < s.data.size
  omega
theorem sfx_cons {s : ByteArray} {k : Nat} {c : UInt8} {r : List UInt8} (h : sfx s k = c :: r) : chr s k = c ∧ sfx s (k + 1) = r := by
  have hk : k < s.data.toList.length := sfx_lt h
  unfold sfx at h ⊢
  rw [List.drop_eq_getElem_cons hk] at h
  injection h with h1 h2
  refine ⟨?_, h2⟩
  unfold chr
  rw [Array.getD_eq_getD_getElem?, Array.getElem?_eq_getElem (by simpa using hk)]
  simpa using h1
theorem sfx_at {s : ByteArray} {k : Nat} (h : k < s.size) : sfx s k = chr s k :: sfx s (k + 1) := by
  have hk : k < s.data.toList.length := h
  unfold sfx chr
  rw [List.drop_eq_getElem_cons hk, Array.getD_eq_getD_getElem?, Array.getElem?_eq_getElem (by simpa using hk)]
  simp
theorem sfx_end {s : ByteArray} {k : Nat} (h : s.size ≤ k) : sfx s k = [] := List.drop_eq_nil_of_le h
theorem sfx_size {s : ByteArray} {k : Nat} (h : k ≤ s.size) : k + (sfx s k).length = s.size := by
  simp only [sfx, List.length_drop, Array.length_toList]
  show k + (s.data.size - k) = s.data.size
  have h : k ≤ s.data.size := h
  omega

theorem take_of {s : ByteArray} {k : Nat} {c : UInt8} {r : List UInt8} (J : ByteArray) (h : sfx s k = c :: r) : takeC s k J = hasB J c := by
  unfold takeC
  rw [decide_eq_true (sfx_lt h), (sfx_cons h).1, Bool.true_and]
/-- What stands there is none of some. -/
def hdNot (J : ByteArray) : List UInt8 → Prop
  | [] => True
  | c :: _ => hasB J c = false
theorem take_not {s : ByteArray} {k : Nat} {J : ByteArray} (h : hdNot J (sfx s k)) : takeC s k J = false := by
  cases hs : sfx s k with
  | nil =>
    unfold takeC
    have : ¬ k < s.size := fun hk => by rw [sfx_at hk] at hs; cases hs
    rw [decide_eq_false this, Bool.false_and]
  | cons c r =>
    rw [hs] at h
    rw [take_of J hs]
    exact h

/-! ### A rank -/

def flL (b : Nat) : List UInt8 := if b = 0 then [] else [UInt8.ofNat (48 + b)]
/-- A rank's text from one of its last n files on, b bare ones ahead. -/
def tlN (P : Nat → Int) (r : Nat) : Nat → Nat → List UInt8
  | 0, b => flL b
  | n + 1, b => if bareB P (8 * r + (8 - (n + 1))) = true then tlN P r n (b + 1) else flL b ++ letB (P (2 * (8 * r + (8 - (n + 1))))) (P (2 * (8 * r + (8 - (n + 1))) + 1)) :: tlN P r n 0

theorem itoaS_list {b : Nat} (h : b ≤ 8) : (itoaS b).data.toList = [UInt8.ofNat (48 + b)] := by
  show (Lib.itoa (b : Int)).toArray.toList = _
  rw [Lib.itoa, if_neg (by omega), Int.toNat_natCast, Lib.decDigits_one (by omega)]
theorem flush_list (c : ByteArray × Nat) (h : c.2 ≤ 8) : (flushS c).data.toList = c.1.data.toList ++ flL c.2 := by
  unfold flushS flL
  split
  · simp
  · rw [ByteArray.data_append, Array.toList_append, itoaS_list h]
theorem rank_list (P : Nat → Int) (r : Nat) : ∀ n, n ≤ 8 → (rankS P r).data.toList = (rk P r (8 - n)).1.data.toList ++ tlN P r n (rk P r (8 - n)).2
  | 0, _ => flush_list _ (rk_le P r 8)
  | n + 1, h => by
    rw [rank_list P r n (by omega), show 8 - n = (8 - (n + 1)) + 1 by omega, rk, tlN]
    have hle := rk_le P r (8 - (n + 1))
    split
    · rfl
    · rw [ByteArray.data_append, Array.toList_append, flush_list _ (by omega), List.append_assoc, List.append_assoc]
      rfl

theorem dig_free : ∀ (f : Fin 8) (b : Fin 9), 0 < b.val → f.val + b.val ≤ 8 → hasB (rowL true f.val) (UInt8.ofNat (48 + b.val)) = true ∧ pcI (UInt8.ofNat (48 + b.val)) = none ∧ (UInt8.ofNat (48 + b.val)).toNat - 48 = b.val := by decide +kernel
theorem let_row : ∀ (f : Fin 8) (free : Bool) (k : Fin 6) (s : Fin 2), hasB (rowL free f.val) (letB ((k.val : Int) + 1) (s.val : Int)) = true ∧ pcI (letB ((k.val : Int) + 1) (s.val : Int)) = some (2 * k.val + s.val) := by decide +kernel

theorem bare_zero {P : Nat → Int} {s : Nat} (h : bareB P s = true) : P (2 * s) = 0 ∧ P (2 * s + 1) = 0 := of_decide_eq_true h
theorem bare_of {P : Nat → Int} {s : Nat} (h : P (2 * s) = 0 ∧ P (2 * s + 1) = 0) : bareB P s = true := decide_eq_true h

/-- A piece on a square, by its letter. -/
theorem piece_at {P : Nat → Int} (hV : VP P) {s : Nat} (hs : s < 64) (hb : bareB P s ≠ true) : ∃ (k : Fin 6) (d : Fin 2), P (2 * s) = (k.val : Int) + 1 ∧ P (2 * s + 1) = (d.val : Int) := by
  rcases hV s hs with h | ⟨h1, h2, h3⟩
  · exact absurd (bare_of h) hb
  · refine ⟨⟨(P (2 * s)).toNat - 1, by omega⟩, ⟨(P (2 * s + 1)).toNat, by rcases h3 with h | h <;> rw [h] <;> decide⟩, ?_, ?_⟩
    · show P (2 * s) = (((P (2 * s)).toNat - 1 : Nat) : Int) + 1
      omega
    · show P (2 * s + 1) = (((P (2 * s + 1)).toNat : Nat) : Int)
      omega

/-- The last files of a rank as in P, all else as in Q. -/
def setR (Q P : Nat → Int) (r f : Nat) : Nat → Int := fun i => if 2 * (8 * r + f) ≤ i ∧ i < 2 * (8 * r + 8) then P i else Q i

theorem setR_bare {Q P : Nat → Int} {r f b : Nat} (hb : ∀ i, i < b → bareB P (8 * r + (f + i)) = true) (h8 : f + b ≤ 8) (hQ : ∀ c, 2 * (8 * r + f) ≤ c → c < 2 * (8 * r + 8) → Q c = 0) : setR Q P r f = setR Q P r (f + b) := by
  funext c
  unfold setR
  by_cases h1 : 2 * (8 * r + (f + b)) ≤ c ∧ c < 2 * (8 * r + 8)
  · rw [if_pos h1, if_pos (by omega)]
  · rw [if_neg h1]
    by_cases h2 : 2 * (8 * r + f) ≤ c ∧ c < 2 * (8 * r + 8)
    · rw [if_pos h2, hQ c h2.1 h2.2]
      have := bare_zero (hb (c / 2 - (8 * r + f)) (by omega))
      have e : 8 * r + (f + (c / 2 - (8 * r + f))) = c / 2 := by omega
      rw [e] at this
      have hc : c = 2 * (c / 2) ∨ c = 2 * (c / 2) + 1 := by omega
      rcases hc with hc | hc
      · rw [hc]; exact this.1
      · rw [hc]; exact this.2
    · rw [if_neg h2]

theorem setR_piece {Q P : Nat → Int} {r f : Nat} (hf : f < 8) {i : Nat} (h0 : P (2 * (8 * r + f)) = ((i / 2 + 1 : Nat) : Int)) (h1 : P (2 * (8 * r + f) + 1) = ((i % 2 : Nat) : Int)) :
    setR (ovA Q (2 * (8 * r + f)) 2 (pX ((i / 2 + 1 : Nat) : Int) ((i % 2 : Nat) : Int))) P r (f + 1) = setR Q P r f := by
  funext c
  unfold setR
  by_cases h : 2 * (8 * r + (f + 1)) ≤ c ∧ c < 2 * (8 * r + 8)
  · rw [if_pos h, if_pos (by omega)]
  · rw [if_neg h]
    by_cases h2 : 2 * (8 * r + f) ≤ c ∧ c < 2 * (8 * r + f) + 2
    · rw [if_pos (by omega), ovA_at h2]
      have hc : c = 2 * (8 * r + f) ∨ c = 2 * (8 * r + f) + 1 := by omega
      rcases hc with rfl | rfl
      · rw [show 2 * (8 * r + f) - 2 * (8 * r + f) = 0 by omega, h0]; rfl
      · rw [show 2 * (8 * r + f) + 1 - 2 * (8 * r + f) = 1 by omega, h1]; rfl
    · rw [ovA_out (by omega), if_neg (by omega)]

theorem rowA {s : ByteArray} {r : Nat} (hr : r < 8) {P : Nat → Int} (hV : VP P) : ∀ (n b j k : Nat) (Q : Nat → Int) (rest : List UInt8), b + n ≤ 8 → sfx s k = tlN P r n b ++ rest → n + b < j →
    (∀ i, i < b → bareB P (8 * r + ((8 - n - b) + i)) = true) → (∀ c, 2 * (8 * r + (8 - n - b)) ≤ c → c < 2 * (8 * r + 8) → Q c = 0) → ∃ k', rowR s r j (8 - n - b) true k Q = .ok (setR Q P r (8 - n - b), k') ∧ sfx s k' = rest
  | 0, b, j, k, Q, rest, h8, hs, hj, hb, hQ => by
    obtain ⟨j, rfl⟩ : ∃ i, j = i + 1 := ⟨j - 1, by omega⟩
    rw [Nat.sub_zero] at hb hQ ⊢
    have hset : setR Q P r (8 - b) = Q := by
      rw [setR_bare hb (by omega) hQ, show 8 - b + b = 8 by omega]
      funext c
      unfold setR
      rw [if_neg (by omega)]
    rw [hset]
    unfold tlN flL at hs
    by_cases hb0 : b = 0
    · subst hb0
      rw [rowR, if_neg (by omega)]
      exact ⟨k, rfl, by simpa using hs⟩
    · rw [if_neg hb0] at hs
      have hs : sfx s k = UInt8.ofNat (48 + b) :: rest := hs
      obtain ⟨h1, h2, h3⟩ := dig_free ⟨8 - b, by omega⟩ ⟨b, by omega⟩ (by show 0 < b; omega) (by show 8 - b + b ≤ 8; omega)
      obtain ⟨c1, c2⟩ := sfx_cons hs
      obtain ⟨j, rfl⟩ : ∃ i, j = i + 1 := ⟨j - 1, by omega⟩
      rw [rowR, if_pos (by omega), if_pos (by rw [take_of _ hs]; exact h1), c1, h2]
      simp only
      rw [h3]
      show ∃ k', rowR s r (j + 1) (8 - b + b) false (k + 1) Q = _ ∧ _
      rw [show 8 - b + b = 8 by omega, rowR, if_neg (by omega)]
      exact ⟨k + 1, rfl, c2⟩
  | n + 1, b, j, k, Q, rest, h8, hs, hj, hb, hQ => by
    unfold tlN at hs
    have hf : 8 - (n + 1) < 8 := by omega
    by_cases hbare : bareB P (8 * r + (8 - (n + 1))) = true
    · rw [if_pos hbare] at hs
      have e : 8 - (n + 1) - b = 8 - n - (b + 1) := by omega
      rw [e] at hb hQ ⊢
      refine rowA hr hV n (b + 1) j k Q rest (by omega) hs (by omega) (fun i hi => ?_) hQ
      by_cases hi2 : i < b
      · exact hb i hi2
      · obtain rfl : i = b := by omega
        rw [show 8 - n - (i + 1) + i = 8 - (n + 1) by omega]
        exact hbare
    · rw [if_neg hbare] at hs
      obtain ⟨kk, d, hk, hd⟩ := piece_at hV (show 8 * r + (8 - (n + 1)) < 64 by omega) hbare
      rw [hk, hd] at hs
      have hset := fun Q' : Nat → Int => setR_piece (Q := Q') (P := P) (r := r) hf (i := 2 * kk.val + d.val) (by rw [hk]; have := d.isLt; omega) (by rw [hd]; have := d.isLt; omega)
      -- a letter read at a place
      have letter : ∀ (free : Bool) (j k : Nat) (rest' : List UInt8), n < j → sfx s k = letB ((kk.val : Int) + 1) (d.val : Int) :: (tlN P r n 0 ++ rest') → rest' = rest →
          ∃ k', rowR s r (j + 1) (8 - (n + 1)) free k Q = .ok (setR Q P r (8 - (n + 1)), k') ∧ sfx s k' = rest := by
        intro free j k rest' hj hl he
        subst he
        obtain ⟨h1, h2⟩ := let_row ⟨8 - (n + 1), hf⟩ free kk d
        obtain ⟨c1, c2⟩ := sfx_cons hl
        rw [rowR, if_pos hf, if_pos (by rw [take_of _ hl]; exact h1), c1, h2]
        simp only
        have ih := rowA hr hV n 0 j (k + 1) (ovA Q (2 * (8 * r + (8 - (n + 1)))) 2 (pX (((2 * kk.val + d.val) / 2 + 1 : Nat) : Int) (((2 * kk.val + d.val) % 2 : Nat) : Int))) rest' (by omega) c2 (by omega) (fun i hi => by omega) (fun c h1 h2 => by
          rw [ovA_out (by omega)]
          exact hQ c (by omega) h2)
        rw [show 8 - n - 0 = 8 - (n + 1) + 1 by omega, hset Q] at ih
        exact ih
      by_cases hb0 : b = 0
      · subst hb0
        obtain ⟨j, rfl⟩ : ∃ i, j = i + 1 := ⟨j - 1, by omega⟩
        exact letter true j k rest (by omega) (by simpa [flL] using hs) rfl
      · obtain ⟨j, rfl⟩ : ∃ i, j = i + 1 := ⟨j - 1, by omega⟩
        obtain ⟨j, rfl⟩ : ∃ i, j = i + 1 := ⟨j - 1, by omega⟩
        unfold flL at hs
        rw [if_neg hb0] at hs
        have hs : sfx s k = UInt8.ofNat (48 + b) :: (letB ((kk.val : Int) + 1) (d.val : Int) :: (tlN P r n 0 ++ rest)) := by simpa using hs
        obtain ⟨h1, h2, h3⟩ := dig_free ⟨8 - (n + 1) - b, by omega⟩ ⟨b, by omega⟩ (by show 0 < b; omega) (by show 8 - (n + 1) - b + b ≤ 8; omega)
        obtain ⟨c1, c2⟩ := sfx_cons hs
        rw [rowR, if_pos (by omega), if_pos (by rw [take_of _ hs]; exact h1), c1, h2]
        simp only
        rw [h3]
        show ∃ k', rowR s r (j + 1) (8 - (n + 1) - b + b) false (k + 1) Q = _ ∧ _
        rw [show 8 - (n + 1) - b + b = 8 - (n + 1) by omega, setR_bare hb (by omega) hQ, show 8 - (n + 1) - b + b = 8 - (n + 1) by omega]
        exact letter false j (k + 1) rest (by omega) c2 rfl

/-! ### All ranks -/

def rowsT (P : Nat → Int) : Nat → List UInt8
  | 0 => []
  | j + 1 => tlN P j 8 0 ++ (if 0 < j then 47 :: rowsT P j else [])

/-- The lowest ranks as in P, all else as in Q. -/
def setL (Q P : Nat → Int) (j : Nat) : Nat → Int := fun i => if i < 16 * j then P i else Q i

theorem rksA {s : ByteArray} {P : Nat → Int} (hV : VP P) : ∀ (j k : Nat) (Q : Nat → Int) (rest : List UInt8), j ≤ 8 → sfx s k = rowsT P j ++ rest → (∀ c, c < 16 * j → Q c = 0) → ∃ k', rksR s j k Q = .ok (setL Q P j, k') ∧ sfx s k' = rest
  | 0, k, Q, rest, _, hs, _ => ⟨k, by
      rw [rksR]
      congr 2, by simpa [rowsT] using hs⟩
  | j + 1, k, Q, rest, hj, hs, hQ => by
    unfold rowsT at hs
    rw [List.append_assoc] at hs
    obtain ⟨k1, h1, h2⟩ := rowA (show j < 8 by omega) hV 8 0 9 k Q _ (by omega) hs (by omega) (fun i hi => by omega) (fun c _ h => hQ c (by omega))
    rw [show 8 - 8 - 0 = 0 by omega] at h1
    rw [rksR, h1]
    simp only
    by_cases h0 : 0 < j
    · rw [if_pos h0] at h2 ⊢
      have h2 : sfx s k1 = 47 :: (rowsT P j ++ rest) := h2
      obtain ⟨c1, c2⟩ := sfx_cons h2
      rw [if_pos (show takeC s k1 slaS = true by rw [take_of _ h2]; decide +kernel)]
      obtain ⟨k', a1, a2⟩ := rksA hV j (k1 + 1) (setR Q P j 0) rest (by omega) c2 (fun c hc => by
        unfold setR
        rw [if_neg (by omega)]
        exact hQ c (by omega))
      refine ⟨k', ?_, a2⟩
      rw [a1]
      congr 2
      funext c
      unfold setL setR
      by_cases h : c < 16 * j
      · rw [if_pos h, if_pos (by omega)]
      · rw [if_neg h]
        by_cases h3 : c < 16 * (j + 1)
        · rw [if_pos (by omega), if_pos h3]
        · rw [if_neg (by omega), if_neg h3]
    · rw [if_neg h0] at h2 ⊢
      obtain rfl : j = 0 := by omega
      refine ⟨k1, ?_, by simpa using h2⟩
      congr 2
      funext c
      unfold setL setR
      by_cases h3 : c < 16
      · rw [if_pos (by omega), if_pos (by omega)]
      · rw [if_neg (by omega), if_neg (by omega)]

theorem rows_list (P : Nat → Int) : ∀ i, i ≤ 7 → (catF (rowF P) ⟨#[47]⟩ i).data.toList ++ (if i < 7 then 47 :: rowsT P (7 - i) else []) = rowsT P 8
  | 0, _ => by
    show (rankS P 7).data.toList ++ _ = _
    rw [rank_list P 7 8 (by omega)]
    rfl
  | i + 1, h => by
    rw [← rows_list P i (by omega), if_pos (show i < 7 by omega), catF]
    rw [ByteArray.data_append, Array.toList_append, ByteArray.data_append, Array.toList_append, List.append_assoc, List.append_assoc]
    congr 1
    show [47] ++ _ = _
    rw [show 7 - i = (7 - (i + 1)) + 1 by omega, rowsT]
    show 47 :: ((rankS P (7 - (i + 1))).data.toList ++ _) = 47 :: _
    rw [rank_list P _ 8 (by omega)]
    have e : (rk P (7 - (i + 1)) (8 - 8)) = (.empty, 0) := rfl
    rw [e]
    show 47 :: (_ ++ _) = _
    congr 1
    by_cases h7 : i + 1 < 7
    · rw [if_pos h7, if_pos (by omega)]; rfl
    · rw [if_neg h7, if_neg (by omega)]; rfl

end Go.Proofs.YtlaogmemhephnaaDoor
/- The plain law of texts: what is shown is read, the same: the parts, the whole. -/
set_option linter.unusedVariables false
set_option linter.unusedSimpArgs false
namespace Go.Proofs.YtlaogmemhephnaaDoor
open Go Go.Am

/-! ### Numbers -/

def valF (v : Nat) (ds : List UInt8) : Nat := ds.foldl (fun v c => 10 * v + (c.toNat - 48)) v

theorem dg_has : ∀ d : Fin 10, hasB digS (UInt8.ofNat (48 + d.val)) = true ∧ (UInt8.ofNat (48 + d.val)).toNat - 48 = d.val := by decide +kernel
theorem dg_hasN {d : Nat} (h : d < 10) : hasB digS (UInt8.ofNat (48 + d)) = true ∧ (UInt8.ofNat (48 + d)).toNat - 48 = d := dg_has ⟨d, h⟩

theorem dec_big {u : Nat} (h : ¬ u < 10) : Lib.decDigits u = Lib.decDigits (u / 10) ++ [UInt8.ofNat (48 + u % 10)] := by rw [Lib.decDigits, dif_neg h]

theorem dec_digits : ∀ (m u : Nat), u ≤ m → (∀ c ∈ Lib.decDigits u, hasB digS c = true) ∧ valF 0 (Lib.decDigits u) = u
  | 0, u, h => by
    obtain rfl : u = 0 := by omega
    rw [Lib.decDigits_one (by omega)]
    exact ⟨fun c hc => by rw [List.mem_singleton.1 hc]; exact (dg_hasN (by omega)).1, by decide +kernel⟩
  | m + 1, u, h => by
    by_cases h10 : u < 10
    · rw [Lib.decDigits_one h10]
      refine ⟨fun c hc => by rw [List.mem_singleton.1 hc]; exact (dg_hasN h10).1, ?_⟩
      show 10 * 0 + _ = u
      rw [(dg_hasN h10).2]; omega
    · obtain ⟨h1, h2⟩ := dec_digits m (u / 10) (by omega)
      rw [dec_big h10]
      refine ⟨fun c hc => ?_, ?_⟩
      · rcases List.mem_append.1 hc with hc | hc
        · exact h1 c hc
        · rw [List.mem_singleton.1 hc]; exact (dg_hasN (by omega)).1
      · unfold valF at h2 ⊢
        rw [List.foldl_append, h2]
        show 10 * (u / 10) + _ = u
        rw [(dg_hasN (by omega)).2]; omega

/-- A number's first digit: it is none only of zero. -/
theorem dec_head : ∀ (m u : Nat), u ≤ m → ∃ c cs, Lib.decDigits u = c :: cs ∧ (0 < c.toNat - 48 ∨ (u = 0 ∧ cs = []))
  | 0, u, h => by
    obtain rfl : u = 0 := by omega
    rw [Lib.decDigits_one (by omega)]
    exact ⟨_, _, rfl, .inr ⟨rfl, rfl⟩⟩
  | m + 1, u, h => by
    by_cases h10 : u < 10
    · rw [Lib.decDigits_one h10]
      refine ⟨_, _, rfl, ?_⟩
      rw [(dg_hasN h10).2]
      rcases Nat.eq_zero_or_pos u with e | e
      · exact .inr ⟨e, rfl⟩
      · exact .inl e
    · obtain ⟨c, cs, h1, h2⟩ := dec_head m (u / 10) (by omega)
      rw [dec_big h10, h1]
      refine ⟨c, cs ++ _, rfl, .inl ?_⟩
      rcases h2 with h2 | h2
      · exact h2
      · have := h2.1; omega

theorem numRA {s : ByteArray} : ∀ (ds : List UInt8) (j k v : Nat) (rest : List UInt8), sfx s k = ds ++ rest → (∀ c ∈ ds, hasB digS c = true) → hdNot digS rest → ds.length ≤ j → (0 < v ∨ ds = []) → (numR s j k v).1 = k + ds.length ∧ (numR s j k v).2 = valF v ds ∧ sfx s (numR s j k v).1 = rest
  | [], j, k, v, rest, hs, _, hn, _, _ => by
    have hs : sfx s k = rest := hs
    have e : numR s j k v = (k, v) := by
      cases j with
      | zero => rfl
      | succ j =>
        rw [numR]
        split
        · rw [if_neg (by rw [take_not (by rw [hs]; exact hn)]; decide)]
        · rfl
    rw [e]
    exact ⟨rfl, rfl, hs⟩
  | c :: ds, j, k, v, rest, hs, hd, hn, hj, hv => by
    obtain ⟨j, rfl⟩ : ∃ i, j = i + 1 := ⟨j - 1, by simp at hj; omega⟩
    have hv : 0 < v := hv.resolve_right (by simp)
    obtain ⟨c1, c2⟩ := sfx_cons hs
    have ih := numRA ds j (k + 1) (10 * v + digV s k) rest c2 (fun x hx => hd x (.tail _ hx)) hn (by simpa using hj) (.inl (by omega))
    rw [numR, if_pos hv, if_pos (by rw [take_of _ hs]; exact hd c (.head _))]
    refine ⟨by rw [ih.1]; simp; omega, ?_, ih.2.2⟩
    rw [ih.2.1]
    show valF (10 * v + ((chr s k).toNat - 48)) ds = valF (10 * v + (c.toNat - 48)) ds
    rw [c1]

theorem numberA {s : ByteArray} {k u : Nat} {rest : List UInt8} (hs : sfx s k = Lib.decDigits u ++ rest) (hn : hdNot digS rest) (hl : (Lib.decDigits u).length ≤ 6) : ∃ k', numberR s k = .ok (k', u) ∧ sfx s k' = rest := by
  obtain ⟨c, cs, h1, h2⟩ := dec_head u u (Nat.le_refl u)
  obtain ⟨h3, h4⟩ := dec_digits u u (Nat.le_refl u)
  rw [h1] at hs h3 h4 hl
  have hs : sfx s k = c :: (cs ++ rest) := hs
  obtain ⟨c1, c2⟩ := sfx_cons hs
  obtain ⟨a1, a2, a3⟩ := numRA cs 5 (k + 1) (digV s k) rest c2 (fun x hx => h3 x (.tail _ hx)) hn (by simpa using hl) (by
    unfold digV
    rw [c1]
    rcases h2 with h2 | h2
    · exact .inl h2
    · exact .inr h2.2)
  unfold numberR
  rw [if_pos (by rw [take_of _ hs]; exact h3 c (.head _))]
  refine ⟨_, ?_, a3⟩
  congr 1
  refine Prod.ext rfl ?_
  rw [a2]
  unfold valF at h4 ⊢
  rw [← h4]
  show _ = (c :: cs).foldl _ 0
  rw [List.foldl_cons]
  unfold digV
  rw [c1, Nat.mul_zero, Nat.zero_add]

/-! ### Castlings -/

def castN (c : Nat) : List Nat := [0, 1, 2, 3].filter fun m => decide (c / 2 ^ m % 2 = 1)
def castX (c : Nat) : List UInt8 := if c = 0 then [45] else (castN c).map castB
theorem cast_list : ∀ c : Fin 16, (orS (mayF (c.val : Int) 4)).data.toList = castX c.val := by decide +kernel
theorem castL_sub : ∀ (fr : Fin 5) (c : Fin 256), hasB (castL fr.val) (UInt8.ofNat c.val) = true → hasB castS (UInt8.ofNat c.val) = true := by decide +kernel
theorem castL_at : ∀ (fr : Fin 5) (m : Fin 4), fr.val ≤ m.val → hasB (castL fr.val) (castB m.val) = true ∧ ixC (castB m.val) = (m.val : Int) := by decide +kernel
theorem cast_sum : ∀ c : Fin 16, ((castN c.val).map fun m => (2 : Int) ^ m).foldl (· + ·) 0 = (c.val : Int) := by decide +kernel
theorem cast_pos : ∀ c : Fin 16, c.val ≠ 0 → castN c.val ≠ [] := by decide +kernel
theorem cast_head (c : Fin 16) (h : c.val ≠ 0) : ∃ m l, castN c.val = m :: l := by
  have := cast_pos c h
  cases hl : castN c.val with
  | nil => exact absurd hl this
  | cons m l => exact ⟨m, l, rfl⟩
theorem castN_ok : ∀ c : Fin 16, (castN c.val).Pairwise (· < ·) ∧ (∀ m ∈ castN c.val, m < 4) ∧ (castN c.val).length ≤ 4 := by decide +kernel

theorem hd_castL {fr : Nat} (hf : fr ≤ 4) {l : List UInt8} (h : hdNot castS l) : hdNot (castL fr) l := by
  match l with
  | [] => trivial
  | c :: r =>
    show hasB (castL fr) c = false
    have h : hasB castS c = false := h
    cases hb : hasB (castL fr) c with
    | false => rfl
    | true =>
      have := castL_sub ⟨fr, by omega⟩ ⟨c.toNat, c.toNat_lt⟩
      simp only [UInt8.ofNat_toNat] at this
      rw [this hb] at h
      cases h

theorem cstA {s : ByteArray} {rest : List UInt8} (hr : hdNot castS rest) : ∀ (l : List Nat) (fr j k : Nat) (C : Int), fr ≤ 4 → (∀ m ∈ l, fr ≤ m ∧ m < 4) → l.Pairwise (· < ·) → sfx s k = l.map castB ++ rest → l.length < j →
    (cstR s j fr k C).1 = (l.map fun m => (2 : Int) ^ m).foldl (· + ·) C ∧ sfx s (cstR s j fr k C).2 = rest
  | [], fr, j, k, C, hf, _, _, hs, hj => by
    obtain ⟨j, rfl⟩ : ∃ i, j = i + 1 := ⟨j - 1, by omega⟩
    have hs : sfx s k = rest := hs
    rw [cstR, if_neg (by rw [take_not (by rw [hs]; exact hd_castL hf hr)]; decide)]
    exact ⟨rfl, hs⟩
  | m :: l, fr, j, k, C, hf, hm, hp, hs, hj => by
    obtain ⟨j, rfl⟩ : ∃ i, j = i + 1 := ⟨j - 1, by omega⟩
    have hs : sfx s k = castB m :: (l.map castB ++ rest) := hs
    obtain ⟨c1, c2⟩ := sfx_cons hs
    obtain ⟨h1, h2⟩ := hm m (.head _)
    obtain ⟨a1, a2⟩ := castL_at ⟨fr, by omega⟩ ⟨m, h2⟩ h1
    obtain ⟨hp1, hp2⟩ := List.pairwise_cons.1 hp
    have e : (ixC (chr s k)).toNat = m := by rw [c1, a2]; exact Int.toNat_natCast m
    rw [cstR, if_pos (by rw [take_of _ hs]; exact a1), e]
    exact cstA hr l (m + 1) j (k + 1) _ (by omega) (fun x hx => ⟨hp1 x hx, (hm x (.tail _ hx)).2⟩) hp2 c2 (by simpa using hj)

theorem castB_lin : ∀ m : Fin 4, hasB linS (castB m.val) = false := by decide +kernel

theorem castleA {s : ByteArray} {k c : Nat} (hc : c < 16) {rest : List UInt8} (hs : sfx s k = castX c ++ rest) (hr : hdNot castS rest) : ∃ k', castleR s k = .ok ((c : Int), k') ∧ sfx s k' = rest := by
  unfold castX at hs
  unfold castleR
  by_cases h0 : c = 0
  · subst h0
    rw [if_pos rfl] at hs
    have hs : sfx s k = 45 :: rest := hs
    rw [if_pos (by rw [take_of _ hs]; decide +kernel)]
    exact ⟨k + 1, rfl, (sfx_cons hs).2⟩
  · rw [if_neg h0] at hs
    obtain ⟨m, l, hl⟩ := cast_head ⟨c, hc⟩ h0
    obtain ⟨q1, q2, q3⟩ := castN_ok ⟨c, hc⟩
    have hl : castN c = m :: l := hl
    have q2 : ∀ m ∈ castN c, m < 4 := q2
    have hm := q2 m (by rw [hl]; exact .head _)
    have hs2 := hs
    rw [hl] at hs2
    have hs2 : sfx s k = castB m :: (l.map castB ++ rest) := hs2
    rw [if_neg (by rw [take_of _ hs2, castB_lin ⟨m, hm⟩]; decide), if_pos (by rw [take_of _ hs2]; exact (castL_at ⟨0, by omega⟩ ⟨m, hm⟩ (Nat.zero_le _)).1)]
    obtain ⟨a1, a2⟩ := cstA hr (castN c) 0 5 k 0 (by omega) (fun x hx => ⟨Nat.zero_le _, q2 x hx⟩) q1 hs (by have q3 : (castN c).length ≤ 4 := q3; omega)
    refine ⟨_, ?_, a2⟩
    congr 1
    refine Prod.ext ?_ rfl
    rw [a1]
    exact cast_sum ⟨c, hc⟩

/-! ### Squares -/

def overX (x : Int) : List UInt8 := if x = -1 then [45] else [UInt8.ofNat (97 + x.toNat % 8), UInt8.ofNat (49 + x.toNat / 8)]
theorem over_list {x : Int} (h : x = -1 ∨ (0 ≤ x ∧ x < 64)) : (orS (nameS x)).data.toList = overX x := by
  rcases h with rfl | h
  · rfl
  · unfold overX
    rw [if_neg (by omega), name_in h]
    show [_, _] = [_, _]
    rw [show (x % 8).toNat = x.toNat % 8 by omega, show (x / 8).toNat = x.toNat / 8 by omega]
theorem sq_at : ∀ x : Fin 64, hasB linS (UInt8.ofNat (97 + x.val % 8)) = false ∧ hasB filS (UInt8.ofNat (97 + x.val % 8)) = true ∧ hasB rnkS (UInt8.ofNat (49 + x.val / 8)) = true ∧ 8 * ((UInt8.ofNat (49 + x.val / 8)).toNat - 49) + ((UInt8.ofNat (97 + x.val % 8)).toNat - 97) = x.val := by decide +kernel

theorem overA {s : ByteArray} {k : Nat} {x : Int} (h : x = -1 ∨ (0 ≤ x ∧ x < 64)) {rest : List UInt8} (hs : sfx s k = overX x ++ rest) : ∃ k', overR s k = .ok (x, k') ∧ sfx s k' = rest := by
  unfold overX at hs
  unfold overR
  rcases h with rfl | h
  · rw [if_pos rfl] at hs
    have hs : sfx s k = 45 :: rest := hs
    rw [if_pos (by rw [take_of _ hs]; decide +kernel)]
    exact ⟨k + 1, rfl, (sfx_cons hs).2⟩
  · rw [if_neg (by omega)] at hs
    obtain ⟨n, hn, rfl⟩ : ∃ n : Nat, n < 64 ∧ x = n := ⟨x.toNat, by omega, by omega⟩
    rw [Int.toNat_natCast] at hs
    obtain ⟨h1, h2, h3, h4⟩ := sq_at ⟨n, hn⟩
    have hs : sfx s k = UInt8.ofNat (97 + n % 8) :: UInt8.ofNat (49 + n / 8) :: rest := hs
    obtain ⟨c1, c2⟩ := sfx_cons hs
    obtain ⟨c3, c4⟩ := sfx_cons c2
    rw [if_neg (by rw [take_of _ hs]; rw [show hasB linS (UInt8.ofNat (97 + n % 8)) = false from h1]; decide), if_pos (by rw [take_of _ hs]; exact h2), if_pos (by rw [take_of _ c2]; exact h3), c1, c3]
    refine ⟨k + 2, ?_, c4⟩
    congr 2
    exact congrArg Int.ofNat h4

/-! ### The whole -/

theorem part_step {s : ByteArray} {j i k k' : Nat} {P P' : Nat → Int} (h : partR s i k P = .ok (P', k')) : partsR s (j + 1) i k P = partsR s j (i + 1) k' P' := by
  rw [partsR, h]

theorem sp_of {s : ByteArray} {k : Nat} {l : List UInt8} {f : Nat → Except Nat ((Nat → Int) × Nat)} (h : sfx s k = 32 :: l) : spR s k f = f (k + 1) ∧ sfx s (k + 1) = l := by
  unfold spR
  rw [if_pos (by rw [take_of _ h]; decide +kernel)]
  exact ⟨rfl, (sfx_cons h).2⟩

/-- A position's text, as a list. -/
def textL (P : Nat → Int) : List UInt8 := rowsT P 8 ++ 32 :: sideB (P 128) :: 32 :: (castX (P 129).toNat ++ 32 :: (overX (P 130) ++ 32 :: (Lib.decDigits (P 131).toNat ++ 32 :: Lib.decDigits (P 132).toNat)))

theorem show_list {P : Nat → Int} (h : Rt P) : (showS P).data.toList = textL P := by
  have h0 := rows_list P 7 (Nat.le_refl 7)
  rw [if_neg (by omega), List.append_nil] at h0
  have hc := cast_list ⟨(P 129).toNat, by have := h.cast; omega⟩
  simp only at hc
  rw [show (((P 129).toNat : Nat) : Int) = P 129 by have := h.cast; omega] at hc
  have hi : ∀ n : Int, 0 ≤ n → (Lib.itoa n).toArray.toList = Lib.decDigits n.toNat := fun n hn => by rw [Lib.itoa, if_neg (by omega)]
  unfold showS textL
  simp only [catF, ByteArray.data_append, Array.toList_append, List.append_assoc]
  show (catF (rowF P) ⟨#[47]⟩ 7).data.toList ++ ([32] ++ ([sideB (P 128)] ++ ([32] ++ ((orS (mayF (P 129) 4)).data.toList ++ ([32] ++ ((orS (nameS (P 130))).data.toList ++ ([32] ++ ((Lib.itoa (P 131)).toArray.toList ++ ([32] ++ (Lib.itoa (P 132)).toArray.toList))))))))) = _
  rw [h0, hc, over_list h.over, hi _ h.half.1, hi _ (by have := h.full.1; omega)]
  rfl

theorem side_at2 : ∀ d : Fin 2, hasB wbS (sideB (d.val : Int)) = true ∧ wbI (sideB (d.val : Int)) = (d.val : Int) := by decide +kernel

theorem dec_le6 {n : Int} (h0 : 0 ≤ n) (h1 : n < 100000) : (Lib.decDigits n.toNat).length ≤ 6 := by
  rw [Lib.decDigits_length]
  have := nd_le 5 n.toNat (by omega) (by omega)
  omega

theorem laid_all {P : Nat → Int} (hz : ∀ i, 133 ≤ i → P i = 0) : ov (ov (ov (ov (ov (setL (fun _ => 0) P 8) 128 (P 128)) 129 (P 129)) 130 (P 130)) 131 (P 131)) 132 (P 132) = P := by
  funext i
  by_cases h2 : i = 132
  · subst h2; simp [ov]
  rw [ov_out h2]
  by_cases h1 : i = 131
  · subst h1; simp [ov]
  rw [ov_out h1]
  by_cases h0 : i = 130
  · subst h0; simp [ov]
  rw [ov_out h0]
  by_cases h9 : i = 129
  · subst h9; simp [ov]
  rw [ov_out h9]
  by_cases h8 : i = 128
  · subst h8; simp [ov]
  rw [ov_out h8]
  unfold setL
  by_cases hi : i < 16 * 8
  · rw [if_pos hi]
  · rw [if_neg hi, hz i (by omega)]

theorem showA {P : Nat → Int} (h : Rt P) (hz : ∀ i, 133 ≤ i → P i = 0) : allR (showS P) = .ok P := by
  have hs0 : sfx (showS P) 0 = textL P := by rw [sfx0, show_list h]
  unfold textL at hs0
  obtain ⟨k0, r0, s0⟩ := rksA h.vp 8 0 (fun _ => 0) _ (Nat.le_refl 8) hs0 (fun _ _ => rfl)
  generalize hQ : setL (fun _ => 0) P 8 = Q at r0
  -- the side
  obtain ⟨d, hd⟩ : ∃ d : Fin 2, P 128 = (d.val : Int) := by
    rcases h.side with e | e
    · exact ⟨0, e⟩
    · exact ⟨1, e⟩
  obtain ⟨d1, d2⟩ := side_at2 d
  rw [← hd] at d1 d2
  obtain ⟨p1, s1⟩ := sp_of (f := innR (showS P) 0 Q) s0
  have e1 : innR (showS P) 0 Q (k0 + 1) = .ok (ov Q 128 (P 128), k0 + 1 + 1) := by
    show sideR _ _ _ = _
    unfold sideR
    rw [if_pos (by rw [take_of _ s1]; exact d1), (sfx_cons s1).1, d2]
  have s1 := (sfx_cons s1).2
  -- castlings
  obtain ⟨p2, s2⟩ := sp_of (f := innR (showS P) 1 (ov Q 128 (P 128))) s1
  obtain ⟨k2, c2, s2⟩ := castleA (by have := h.cast; omega) s2 (show hasB castS 32 = false by decide +kernel)
  have e2 : innR (showS P) 1 (ov Q 128 (P 128)) (k0 + 1 + 1 + 1) = .ok (ov (ov Q 128 (P 128)) 129 (P 129), k2) := by
    show castP _ _ _ = _
    unfold castP
    rw [c2, show (((P 129).toNat : Nat) : Int) = P 129 by have := h.cast; omega]; rfl
  -- a square
  obtain ⟨p3, s3⟩ := sp_of (f := innR (showS P) 2 (ov (ov Q 128 (P 128)) 129 (P 129))) s2
  obtain ⟨k3, c3, s3⟩ := overA h.over s3
  have e3 : innR (showS P) 2 (ov (ov Q 128 (P 128)) 129 (P 129)) (k2 + 1) = .ok (ov (ov (ov Q 128 (P 128)) 129 (P 129)) 130 (P 130), k3) := by
    show overP _ _ _ = _
    unfold overP
    rw [c3]; rfl
  -- numbers
  obtain ⟨p4, s4⟩ := sp_of (f := innR (showS P) 3 (ov (ov (ov Q 128 (P 128)) 129 (P 129)) 130 (P 130))) s3
  obtain ⟨k4, c4, s4⟩ := numberA s4 (show hasB digS 32 = false by decide +kernel) (dec_le6 h.half.1 (by have := h.half.2; omega))
  have e4 : innR (showS P) 3 (ov (ov (ov Q 128 (P 128)) 129 (P 129)) 130 (P 130)) (k3 + 1) = .ok (ov (ov (ov (ov Q 128 (P 128)) 129 (P 129)) 130 (P 130)) 131 (P 131), k4) := by
    show numP _ _ _ _ = _
    unfold numP
    rw [c4, show P 131 = (((P 131).toNat : Nat) : Int) by have := h.half.1; omega]; rfl
  obtain ⟨p5, s5⟩ := sp_of (f := innR (showS P) 4 (ov (ov (ov (ov Q 128 (P 128)) 129 (P 129)) 130 (P 130)) 131 (P 131))) s4
  obtain ⟨k5, c5, s5⟩ := numberA (rest := []) (by rw [List.append_nil]; exact s5) trivial (dec_le6 (by have := h.full.1; omega) (by have := h.full.2; omega))
  have e5 : innR (showS P) 4 (ov (ov (ov (ov Q 128 (P 128)) 129 (P 129)) 130 (P 130)) 131 (P 131)) (k4 + 1) = .ok (ov (ov (ov (ov (ov Q 128 (P 128)) 129 (P 129)) 130 (P 130)) 131 (P 131)) 132 (P 132), k5) := by
    show numP _ _ _ _ = _
    unfold numP
    rw [c5, show P 132 = (((P 132).toNat : Nat) : Int) by have := h.full.1; omega]; rfl
  have hk5 : ¬ k5 < (showS P).size := fun hk => by rw [sfx_at hk] at s5; cases s5
  unfold allR
  rw [r0]
  simp only
  rw [part_step (p1.trans e1), part_step (p2.trans e2), part_step (p3.trans e3), part_step (p4.trans e4), part_step (p5.trans e5), partsR]
  simp only
  rw [if_neg hk5]
  rw [← hQ, laid_all hz]

end Go.Proofs.YtlaogmemhephnaaDoor
/- The plain law of texts: what is read is shown, the same. -/
set_option linter.unusedVariables false
set_option linter.unusedSimpArgs false
namespace Go.Proofs.YtlaogmemhephnaaDoor
open Go Go.Am

theorem sfx_take {s : ByteArray} {k : Nat} {J : ByteArray} (h : takeC s k J = true) : sfx s k = chr s k :: sfx s (k + 1) := sfx_at (take_lt h)

theorem one_of {J : ByteArray} {d : UInt8} (hJ : ∀ c : Fin 256, hasB J (UInt8.ofNat c.val) = true → UInt8.ofNat c.val = d) {c : UInt8} (h : hasB J c = true) : c = d := by
  have := hJ ⟨c.toNat, c.toNat_lt⟩
  simp only [UInt8.ofNat_toNat] at this
  exact this h
theorem lin_is : ∀ c : Fin 256, hasB linS (UInt8.ofNat c.val) = true → UInt8.ofNat c.val = 45 := by decide +kernel
theorem spc_is : ∀ c : Fin 256, hasB spcS (UInt8.ofNat c.val) = true → UInt8.ofNat c.val = 32 := by decide +kernel
theorem sla_is : ∀ c : Fin 256, hasB slaS (UInt8.ofNat c.val) = true → UInt8.ofNat c.val = 47 := by decide +kernel

theorem u8_back {c : UInt8} {m : Nat} (h : m ≤ c.toNat) : UInt8.ofNat (m + (c.toNat - m)) = c := by
  rw [show m + (c.toNat - m) = c.toNat by omega, UInt8.ofNat_toNat]

/-! ### A rank -/

theorem row_let : ∀ (f : Fin 8) (c : Fin 256), hasB (rowL false f.val) (UInt8.ofNat c.val) = true → (pcI (UInt8.ofNat c.val)).isSome = true := by decide +kernel
theorem row_letter {f : Nat} (hf : f < 8) {c : UInt8} (h : hasB (rowL false f) c = true) : ∃ i, pcI c = some i := by
  have := row_let ⟨f, hf⟩ ⟨c.toNat, c.toNat_lt⟩
  simp only [UInt8.ofNat_toNat] at this
  exact Option.isSome_iff_exists.1 (this h)
theorem pcI_let : ∀ c : Fin 256, ∀ i : Fin 12, pcI (UInt8.ofNat c.val) = some i.val → letB ((i.val / 2 + 1 : Nat) : Int) ((i.val % 2 : Nat) : Int) = UInt8.ofNat c.val := by decide +kernel
theorem pcI_letter {c : UInt8} {i : Nat} (h : pcI c = some i) : letB ((i / 2 + 1 : Nat) : Int) ((i % 2 : Nat) : Int) = c := by
  have := pcI_let ⟨c.toNat, c.toNat_lt⟩ ⟨i, pcI_lt h⟩
  simp only [UInt8.ofNat_toNat] at this
  exact this h

/-- A square's cells are none or a piece's. -/
def okS (P : Nat → Int) (s : Nat) : Prop := (P (2 * s) = 0 ∧ P (2 * s + 1) = 0) ∨ (1 ≤ P (2 * s) ∧ P (2 * s) ≤ 6 ∧ (P (2 * s + 1) = 0 ∨ P (2 * s + 1) = 1))

theorem tl_bare (P : Nat → Int) (r : Nat) : ∀ (d n b : Nat), n + d ≤ 8 → (∀ i, i < d → bareB P (8 * r + (8 - (n + d) + i)) = true) → tlN P r (n + d) b = tlN P r n (b + d)
  | 0, n, b, _, _ => rfl
  | d + 1, n, b, h8, hb => by
    show tlN P r ((n + d) + 1) b = _
    rw [tlN, if_pos (by have := hb 0 (by omega); rw [Nat.add_zero] at this; exact this), tl_bare P r d n (b + 1) (by omega) (fun i hi => by
      have := hb (i + 1) (by omega)
      rw [show 8 - (n + (d + 1)) + (i + 1) = 8 - (n + d) + i by omega] at this
      exact this)]
    rw [show b + 1 + d = b + (d + 1) by omega]

theorem tl_congr {P Q : Nat → Int} {r : Nat} (h : ∀ i, 16 * r ≤ i → i < 16 * (r + 1) → P i = Q i) : ∀ (n b : Nat), n ≤ 8 → tlN P r n b = tlN Q r n b
  | 0, b, _ => rfl
  | n + 1, b, hn => by
    have h1 := h (2 * (8 * r + (8 - (n + 1)))) (by omega) (by omega)
    have h2 := h (2 * (8 * r + (8 - (n + 1))) + 1) (by omega) (by omega)
    unfold tlN
    unfold bareB
    rw [h1, h2, tl_congr h n (b + 1) (by omega), tl_congr h n 0 (by omega)]

theorem rowB {s : ByteArray} {r : Nat} (hr : r < 8) : ∀ (j f : Nat) (free : Bool) (k : Nat) (Q P' : Nat → Int) (k' : Nat), f ≤ 8 → 8 - f < j → (∀ c, 2 * (8 * r + f) ≤ c → c < 16 * (r + 1) → Q c = 0) → rowR s r j f free k Q = .ok (P', k') →
    (∀ i, ¬ (2 * (8 * r + f) ≤ i ∧ i < 16 * (r + 1)) → P' i = Q i) ∧ (∀ q, 8 * r + f ≤ q → q < 8 * (r + 1) → okS P' q) ∧
    (free = true → sfx s k = tlN P' r (8 - f) 0 ++ sfx s k') ∧ (free = false → ∃ t, sfx s k = t ++ sfx s k' ∧ ∀ b, 0 < b → b ≤ 8 → tlN P' r (8 - f) b = UInt8.ofNat (48 + b) :: t)
  | 0, f, free, k, Q, P', k', _, hj, _, _ => by omega
  | j + 1, f, free, k, Q, P', k', hf8, hj, hQ, h => by
    rw [rowR] at h
    by_cases hf : f < 8
    · rw [if_pos hf] at h
      cases ht : takeC s k (rowL free f) with
      | false => rw [if_neg (by rw [ht]; decide)] at h; cases h
      | true =>
        rw [if_pos ht] at h
        have hs := sfx_take ht
        have hc := take_has ht
        generalize hcc : chr s k = c at h hs hc
        obtain ⟨n, hn⟩ : ∃ n, 8 - f = n + 1 := ⟨7 - f, by omega⟩
        have hn1 : 8 - (f + 1) = n := by omega
        have hfn : 8 - (n + 1) = f := by omega
        cases hp : pcI c with
        | some i =>
          rw [hp] at h
          simp only at h
          have hi := pcI_lt hp
          obtain ⟨a1, a2, a3, _⟩ := rowB hr j (f + 1) true (k + 1) _ P' k' (by omega) (by omega) (fun x h1 h2 => by
            rw [ovA_out (by omega)]
            exact hQ x (by omega) h2) h
          have a3 := a3 rfl
          rw [hn1] at a3
          have p0 : P' (2 * (8 * r + f)) = ((i / 2 + 1 : Nat) : Int) := by
            rw [a1 _ (by omega), ovA_at (by omega), show 2 * (8 * r + f) - 2 * (8 * r + f) = 0 by omega]; rfl
          have p1 : P' (2 * (8 * r + f) + 1) = ((i % 2 : Nat) : Int) := by
            rw [a1 _ (by omega), ovA_at (by omega), show 2 * (8 * r + f) + 1 - 2 * (8 * r + f) = 1 by omega]; rfl
          have hnb : bareB P' (8 * r + f) ≠ true := fun e => by
            have := (bare_zero e).1
            rw [p0] at this; omega
          have htl : ∀ b, tlN P' r (8 - f) b = flL b ++ c :: tlN P' r n 0 := fun b => by
            rw [hn, tlN, hfn, if_neg hnb, p0, p1, pcI_letter hp]
          refine ⟨fun x hx => ?_, fun q h1 h2 => ?_, fun _ => ?_, fun _ => ⟨c :: tlN P' r n 0, ?_, fun b hb _ => ?_⟩⟩
          · rw [a1 x (by omega), ovA_out (by omega)]
          · by_cases e : q = 8 * r + f
            · subst e
              refine .inr ⟨by rw [p0]; omega, by rw [p0]; omega, ?_⟩
              rw [p1]
              have : i % 2 = 0 ∨ i % 2 = 1 := by omega
              rcases this with e | e <;> rw [e]
              · exact .inl rfl
              · exact .inr rfl
            · exact a2 q (by omega) h2
          · rw [hs, a3, htl]; rfl
          · rw [hs, a3]; rfl
          · rw [htl, flL, if_neg (by omega)]; rfl
        | none =>
          rw [hp] at h
          simp only at h
          have hfree : free = true := by
            cases free with
            | true => rfl
            | false =>
              obtain ⟨i, hi⟩ := row_letter hf hc
              rw [hp] at hi; cases hi
          subst hfree
          rcases row_of hf hc with ⟨i, hi⟩ | ⟨_, h1, h2⟩
          · rw [hp] at hi; cases hi
          obtain ⟨d, hd⟩ : ∃ d, c.toNat - 48 = d := ⟨_, rfl⟩
          rw [hd] at h
          obtain ⟨a1, a2, _, a4⟩ := rowB hr j (f + d) false (k + 1) Q P' k' (by omega) (by omega) (fun x h1 h2 => hQ x (by omega) h2) h
          obtain ⟨t, b1, b2⟩ := a4 rfl
          have hzero : ∀ x, 2 * (8 * r + f) ≤ x → x < 2 * (8 * r + (f + d)) → P' x = 0 := fun x h3 h4 => by
            rw [a1 x (by omega)]
            exact hQ x h3 (by omega)
          refine ⟨fun x hx => a1 x (by omega), fun q h3 h4 => ?_, fun _ => ?_, fun e => by cases e⟩
          · by_cases e : 8 * r + (f + d) ≤ q
            · exact a2 q e h4
            · exact .inl ⟨hzero _ (by omega) (by omega), hzero _ (by omega) (by omega)⟩
          · have e : tlN P' r (8 - f) 0 = tlN P' r (8 - (f + d)) (0 + d) := by
              rw [show 8 - f = (8 - (f + d)) + d by omega]
              refine tl_bare P' r d (8 - (f + d)) 0 (by omega) fun i hi => bare_of ⟨hzero _ (by omega) (by omega), hzero _ (by omega) (by omega)⟩
            rw [e, Nat.zero_add, b2 d (by omega) (by omega), hs, b1, ← hd, u8_back (by omega)]
            rfl
    · rw [if_neg hf] at h
      simp only [Except.ok.injEq, Prod.mk.injEq] at h
      obtain ⟨rfl, rfl⟩ := h
      obtain rfl : f = 8 := by omega
      refine ⟨fun _ _ => rfl, fun q h1 h2 => by omega, fun _ => rfl, fun _ => ⟨[], rfl, fun b hb _ => ?_⟩⟩
      show flL b = _
      unfold flL
      rw [if_neg (by omega)]

theorem rksB {s : ByteArray} : ∀ (j k : Nat) (Q P' : Nat → Int) (k' : Nat), j ≤ 8 → (∀ c, c < 16 * j → Q c = 0) → rksR s j k Q = .ok (P', k') →
    (∀ i, 16 * j ≤ i → P' i = Q i) ∧ (∀ q, q < 8 * j → okS P' q) ∧ sfx s k = rowsT P' j ++ sfx s k'
  | 0, k, Q, P', k', _, _, h => by
    simp only [rksR, Except.ok.injEq, Prod.mk.injEq] at h
    obtain ⟨rfl, rfl⟩ := h
    exact ⟨fun _ _ => rfl, fun q hq => by omega, rfl⟩
  | j + 1, k, Q, P', k', hj, hQ, h => by
    rw [rksR] at h
    split at h
    · cases h
    · rename_i P1 k1 h1
      obtain ⟨a1, a2, a3, _⟩ := rowB (show j < 8 by omega) 9 0 true k Q P1 k1 (by omega) (by omega) (fun c _ h => hQ c h) h1
      have a3 := a3 rfl
      split at h
      · rename_i h0
        split at h
        · rename_i ht
          obtain ⟨b1, b2, b3⟩ := rksB j (k1 + 1) P1 P' k' (by omega) (fun c hc => by rw [a1 c (by omega)]; exact hQ c (by omega)) h
          refine ⟨fun i hi => by rw [b1 i (by omega), a1 i (by omega)], fun q hq => ?_, ?_⟩
          · by_cases e : q < 8 * j
            · exact b2 q e
            · have := a2 q (by omega) (by omega)
              unfold okS at this ⊢
              rw [b1 _ (by omega), b1 _ (by omega)]
              exact this
          · have hs := sfx_take ht
            rw [one_of sla_is (take_has ht)] at hs
            rw [a3, hs, b3, rowsT, if_pos h0, List.append_assoc, tl_congr (fun i h1 h2 => (b1 i (by omega)).symm) 8 0 (by omega)]
            rfl
        · cases h
      · rename_i h0
        simp only [Except.ok.injEq, Prod.mk.injEq] at h
        obtain ⟨rfl, rfl⟩ := h
        refine ⟨fun i hi => a1 i (by omega), fun q hq => a2 q (by omega) (by omega), ?_⟩
        rw [a3, rowsT, if_neg h0, List.append_nil]

/-! ### The parts -/

theorem numRB {s : ByteArray} : ∀ (j k v : Nat), 0 < v → Lib.decDigits v ++ sfx s k = Lib.decDigits (numR s j k v).2 ++ sfx s (numR s j k v).1
  | 0, k, v, _ => rfl
  | j + 1, k, v, hv => by
    rw [numR, if_pos hv]
    cases ht : takeC s k digS with
    | false => rw [if_neg (by decide)]
    | true =>
      rw [if_pos rfl]
      have hd := dig_of (take_has ht)
      have ih := numRB (s := s) j (k + 1) (10 * v + digV s k) (by omega)
      rw [← ih, sfx_take ht]
      have hlt : digV s k < 10 := by unfold digV; omega
      rw [dec_big (u := 10 * v + digV s k) (by omega), show (10 * v + digV s k) / 10 = v by omega, show (10 * v + digV s k) % 10 = digV s k by omega, List.append_assoc]
      congr 1
      show _ = UInt8.ofNat (48 + digV s k) :: _
      unfold digV
      rw [u8_back hd.1]
      rfl

theorem numberB {s : ByteArray} {k k' v : Nat} (h : numberR s k = .ok (k', v)) : sfx s k = Lib.decDigits v ++ sfx s k' := by
  unfold numberR at h
  cases ht : takeC s k digS with
  | false => rw [if_neg (by rw [ht]; decide)] at h; cases h
  | true =>
    rw [if_pos ht] at h
    have hd := dig_of (take_has ht)
    have hlt : digV s k < 10 := by unfold digV; omega
    have h := Except.ok.inj h
    have hs := sfx_take ht
    have e : [chr s k] = Lib.decDigits (digV s k) := by
      rw [Lib.decDigits_one hlt]
      unfold digV
      rw [u8_back hd.1]
    by_cases h0 : digV s k = 0
    · have e2 : numR s 5 (k + 1) (digV s k) = (k + 1, 0) := by rw [h0]; rfl
      rw [e2] at h
      cases h
      rw [hs]
      show [chr s k] ++ _ = _
      rw [e, h0]
      rfl
    · have := numRB (s := s) 5 (k + 1) (digV s k) (by omega)
      rw [h] at this
      rw [← this, hs, ← e]
      rfl

theorem castN_cons : ∀ (m : Fin 4) (c : Fin 16), (∀ x ∈ castN c.val, m.val + 1 ≤ x) → castN (2 ^ m.val + c.val) = m.val :: castN c.val ∧ 2 ^ m.val + c.val < 16 := by decide +kernel

theorem castB_ix : ∀ (fr : Fin 5) (c : Fin 256), hasB (castL fr.val) (UInt8.ofNat c.val) = true → castB (ixC (UInt8.ofNat c.val)).toNat = UInt8.ofNat c.val := by decide +kernel
theorem castB_at {fr : Nat} (hf : fr ≤ 4) {c : UInt8} (h : hasB (castL fr) c = true) : castB (ixC c).toNat = c := by
  have := castB_ix ⟨fr, by omega⟩ ⟨c.toNat, c.toNat_lt⟩
  simp only [UInt8.ofNat_toNat] at this
  exact this h

theorem cstB {s : ByteArray} : ∀ (j fr k : Nat) (C : Int), fr ≤ 4 → ∃ c : Nat, c < 16 ∧ (∀ x ∈ castN c, fr ≤ x) ∧ (cstR s j fr k C).1 = C + (c : Int) ∧ sfx s k = (castN c).map castB ++ sfx s (cstR s j fr k C).2
  | 0, fr, k, C, _ => ⟨0, by omega, by simp [castN], by simp [cstR], rfl⟩
  | j + 1, fr, k, C, hf => by
    rw [cstR]
    cases ht : takeC s k (castL fr) with
    | false => rw [if_neg (by decide)]; exact ⟨0, by omega, by simp [castN], by simp, rfl⟩
    | true =>
      rw [if_pos rfl]
      have hh := take_has ht
      obtain ⟨h1, h2⟩ := ix_of hf hh
      obtain ⟨m, hm⟩ : ∃ m, (ixC (chr s k)).toNat = m := ⟨_, rfl⟩
      have hm4 : m < 4 := by omega
      have hcb := castB_at hf hh
      rw [hm] at hcb ⊢
      obtain ⟨c, c1, c2, c3, c4⟩ := cstB (s := s) j (m + 1) (k + 1) (C + 2 ^ m) (by omega)
      obtain ⟨q1, q2⟩ := castN_cons ⟨m, hm4⟩ ⟨c, c1⟩ c2
      have q1 : castN (2 ^ m + c) = m :: castN c := q1
      refine ⟨2 ^ m + c, q2, fun x hx => ?_, ?_, ?_⟩
      · rw [q1] at hx
        rcases List.mem_cons.1 hx with rfl | hx
        · omega
        · have := c2 x hx; omega
      · rw [c3]
        have : ((2 ^ m + c : Nat) : Int) = 2 ^ m + (c : Int) := by simp
        rw [this]; omega
      · rw [sfx_take ht, q1, c4]
        show _ = castB m :: _
        rw [hcb]; rfl

theorem castleB {s : ByteArray} {k k' : Nat} {C : Int} (h : castleR s k = .ok (C, k')) : ∃ c : Nat, c < 16 ∧ C = c ∧ sfx s k = castX c ++ sfx s k' := by
  unfold castleR at h
  cases h1 : takeC s k linS with
  | true =>
    rw [if_pos h1] at h
    cases h
    refine ⟨0, by omega, rfl, ?_⟩
    rw [sfx_take h1, one_of lin_is (take_has h1)]; rfl
  | false =>
    rw [if_neg (by rw [h1]; decide)] at h
    cases h2 : takeC s k (castL 0) with
    | false => rw [if_neg (by rw [h2]; decide)] at h; cases h
    | true =>
      rw [if_pos h2] at h
      have h := Except.ok.inj h
      obtain ⟨c, c1, _, c3, c4⟩ := cstB (s := s) 5 0 k 0 (by omega)
      rw [h] at c3 c4
      refine ⟨c, c1, by simpa using c3, ?_⟩
      have h0 : c ≠ 0 := fun e => by
        subst e
        have : sfx s k = sfx s k' := c4
        have hk := take_lt h2
        have hl := congrArg List.length this
        have hk2 := cstR_keep (s := s) 4 ((ixC (chr s k)).toNat + 1) (k + 1) (0 + 2 ^ (ixC (chr s k)).toNat) hk
        rw [cstR, if_pos h2] at h
        rw [h] at hk2
        have e1 := sfx_size (s := s) (k := k) (by omega)
        have e2 := sfx_size (s := s) (k := k') hk2.1
        omega
      unfold castX
      rw [if_neg h0]
      exact c4

theorem overB {s : ByteArray} {k k' : Nat} {x : Int} (h : overR s k = .ok (x, k')) : (x = -1 ∨ (0 ≤ x ∧ x < 64)) ∧ sfx s k = overX x ++ sfx s k' := by
  unfold overR at h
  cases h1 : takeC s k linS with
  | true =>
    rw [if_pos h1] at h
    cases h
    refine ⟨.inl rfl, ?_⟩
    rw [sfx_take h1, one_of lin_is (take_has h1)]; rfl
  | false =>
    rw [if_neg (by rw [h1]; decide)] at h
    cases h2 : takeC s k filS with
    | false => rw [if_neg (by rw [h2]; decide)] at h; cases h
    | true =>
      rw [if_pos h2] at h
      cases h3 : takeC s (k + 1) rnkS with
      | false => rw [if_neg (by rw [h3]; decide)] at h; cases h
      | true =>
        rw [if_pos h3] at h
        have f1 := fil_of (take_has h2)
        have f2 := rnk_of (take_has h3)
        cases h
        refine ⟨.inr ⟨by omega, by omega⟩, ?_⟩
        unfold overX
        rw [if_neg (by omega), Int.toNat_natCast, sfx_take h2, sfx_take h3]
        rw [show (8 * ((chr s (k + 1)).toNat - 49) + ((chr s k).toNat - 97)) % 8 = (chr s k).toNat - 97 by omega, show (8 * ((chr s (k + 1)).toNat - 49) + ((chr s k).toNat - 97)) / 8 = (chr s (k + 1)).toNat - 49 by omega, u8_back f1.1, u8_back f2.1]
        rfl

theorem side_is : ∀ c : Fin 256, hasB wbS (UInt8.ofNat c.val) = true → (wbI (UInt8.ofNat c.val) = 0 ∨ wbI (UInt8.ofNat c.val) = 1) ∧ sideB (wbI (UInt8.ofNat c.val)) = UInt8.ofNat c.val := by decide +kernel
theorem side_of2 {c : UInt8} (h : hasB wbS c = true) : (wbI c = 0 ∨ wbI c = 1) ∧ sideB (wbI c) = c := by
  have := side_is ⟨c.toNat, c.toNat_lt⟩
  simp only [UInt8.ofNat_toNat] at this
  exact this h

theorem parts_cons {s : ByteArray} {j i k k' : Nat} {P P' : Nat → Int} (h : partsR s (j + 1) i k P = .ok (P', k')) : ∃ P1 k1, sfx s k = 32 :: sfx s (k + 1) ∧ innR s i P (k + 1) = .ok (P1, k1) ∧ partsR s j (i + 1) k1 P1 = .ok (P', k') := by
  rw [partsR] at h
  split at h
  · cases h
  · rename_i P1 k1 h1
    unfold partR spR at h1
    split at h1
    · rename_i ht
      refine ⟨P1, k1, ?_, h1, h⟩
      rw [sfx_take ht, one_of spc_is (take_has ht)]
    · cases h1

theorem numP_is {s : ByteArray} {c k k' : Nat} {P P' : Nat → Int} (h : numP s c P k = .ok (P', k')) : ∃ v : Nat, P' = ov P c (v : Int) ∧ sfx s k = Lib.decDigits v ++ sfx s k' := by
  unfold numP at h
  cases hn : numberR s k with
  | error e => rw [hn] at h; cases h
  | ok r =>
    obtain ⟨k1, v⟩ := r
    rw [hn] at h
    cases h
    exact ⟨v, rfl, numberB hn⟩

/-- What a text that is read tells. -/
structure Read (P : Nat → Int) : Prop where
  vp : VP P
  side : P 128 = 0 ∨ P 128 = 1
  cast : 0 ≤ P 129 ∧ P 129 ≤ 15
  over : P 130 = -1 ∨ (0 ≤ P 130 ∧ P 130 < 64)
  half : 0 ≤ P 131
  full : 0 ≤ P 132
  out : ∀ i, 133 ≤ i → P i = 0

theorem readB {s : ByteArray} {P : Nat → Int} (h : allR s = .ok P) : s.data.toList = textL P ∧ Read P := by
  unfold allR at h
  split at h
  · cases h
  rename_i Q k0 h0
  split at h
  · cases h
  rename_i P5 k5 hp
  split at h
  · cases h
  rename_i hk
  cases h
  obtain ⟨a1, a2, a3⟩ := rksB 8 0 (fun _ => 0) Q k0 (Nat.le_refl 8) (fun _ _ => rfl) h0
  obtain ⟨P1, k1, s1, i1, hp⟩ := parts_cons hp
  obtain ⟨P2, k2, s2, i2, hp⟩ := parts_cons hp
  obtain ⟨P3, k3, s3, i3, hp⟩ := parts_cons hp
  obtain ⟨P4, k4, s4, i4, hp⟩ := parts_cons hp
  obtain ⟨P6, k6, s5, i5, hp⟩ := parts_cons hp
  have hp : Except.ok (P6, k6) = Except.ok (P, k5) := hp
  cases hp
  have i1 : sideR s Q (k0 + 1) = .ok (P1, k1) := i1
  unfold sideR at i1
  split at i1
  case isFalse => cases i1
  rename_i ht
  cases i1
  obtain ⟨sd, se⟩ := side_of2 (take_has ht)
  have t1 := sfx_take ht
  have i2 : castP s _ _ = .ok (P2, k2) := i2
  unfold castP at i2
  cases hc : castleR s (k0 + 1 + 1 + 1) with
  | error e => rw [hc] at i2; cases i2
  | ok rc =>
  obtain ⟨C, kc⟩ := rc
  rw [hc] at i2
  cases i2
  obtain ⟨c, c1, c2, t2⟩ := castleB hc
  have i3 : overP s _ _ = .ok (P3, k3) := i3
  unfold overP at i3
  cases ho : overR s (kc + 1) with
  | error e => rw [ho] at i3; cases i3
  | ok ro =>
  obtain ⟨x, kx⟩ := ro
  rw [ho] at i3
  cases i3
  obtain ⟨x1, t3⟩ := overB ho
  obtain ⟨v4, rfl, t4⟩ := numP_is (show numP s 131 _ _ = _ from i4)
  obtain ⟨v5, rfl, t5⟩ := numP_is (show numP s 132 _ _ = _ from i5)
  have hend : sfx s k5 = [] := sfx_end (by omega)
  generalize hw : wbI (chr s (k0 + 1)) = w at *
  simp only at s3 s4 t4
  have e128 : ov (ov (ov (ov (ov Q 128 w) 129 C) 130 x) 131 (v4 : Int)) 132 (v5 : Int) 128 = w := rfl
  have e129 : ov (ov (ov (ov (ov Q 128 w) 129 C) 130 x) 131 (v4 : Int)) 132 (v5 : Int) 129 = C := rfl
  have e130 : ov (ov (ov (ov (ov Q 128 w) 129 C) 130 x) 131 (v4 : Int)) 132 (v5 : Int) 130 = x := rfl
  have e131 : ov (ov (ov (ov (ov Q 128 w) 129 C) 130 x) 131 (v4 : Int)) 132 (v5 : Int) 131 = v4 := rfl
  have e132 : ov (ov (ov (ov (ov Q 128 w) 129 C) 130 x) 131 (v4 : Int)) 132 (v5 : Int) 132 = v5 := rfl
  have elo : ∀ i, (i < 128 ∨ 133 ≤ i) → ov (ov (ov (ov (ov Q 128 w) 129 C) 130 x) 131 (v4 : Int)) 132 (v5 : Int) i = Q i := fun i hi => by
    rw [ov_out (by omega), ov_out (by omega), ov_out (by omega), ov_out (by omega), ov_out (by omega)]
  have erows : ∀ j, j ≤ 8 → rowsT (ov (ov (ov (ov (ov Q 128 w) 129 C) 130 x) 131 (v4 : Int)) 132 (v5 : Int)) j = rowsT Q j := by
    intro j
    induction j with
    | zero => exact fun _ => rfl
    | succ j ih =>
      intro hj
      rw [rowsT, rowsT, ih (by omega), tl_congr (fun i h1 h2 => elo i (by omega)) 8 0 (by omega)]
  refine ⟨?_, ⟨fun q hq => ?_, by rw [e128]; exact sd, by rw [e129]; omega, by rw [e130]; exact x1, by rw [e131]; omega, by rw [e132]; omega, fun i hi => by rw [elo i (.inr hi), a1 i (by omega)]⟩⟩
  · rw [← sfx0, a3]
    unfold textL
    rw [e128, e129, e130, e131, e132, erows 8 (Nat.le_refl 8), s1, t1, s2, t2, s3, t3, s4, t4, s5, t5, hend, se, c2]
    simp
  · have := a2 q (by omega)
    unfold okS at this
    rw [elo _ (.inl (by omega)), elo _ (.inl (by omega))]
    exact this

/-- What is read is shown, the same. -/
theorem readA {s : ByteArray} {P : Nat → Int} (h : allR s = .ok P) (hr : Rt P) : showS P = s := by
  obtain ⟨h1, _⟩ := readB h
  refine str_inj ?_
  rw [toList_is, toList_is, show_list hr, h1]

end Go.Proofs.YtlaogmemhephnaaDoor
/- A whole text read: the walk of the ranks. -/
set_option linter.unusedVariables false
set_option linter.unusedSimpArgs false
namespace Go.Proofs.YtlaogmemhephnaaDoor
open Go Go.Am

theorem One_map : One fun b => .map b := ⟨fun _ => by simp [V.refs], fun _ _ => by simp [V.ren]⟩

theorem row_RLok {s : ByteArray} {r : Nat} (hr : r < 8) {k : Nat} {P P' : Nat → Int} {k' : Nat} (hs : s.size ≤ 1000) (hk : k ≤ s.size) (h : rowR s r 9 0 true k P = .ok (P', k')) :
    RL AM 45 [.ptr 0 0 135, .s (.int .i64 (r : Int)), .map 1] [.sc .var 135 (rdG s k P), .mp .var (pcs 12)] (.tup []) [.sc .var 135 (rdG s k' P'), .mp .var (pcs 12)] := by
  obtain ⟨v, σ', n', L', h1, h2, h3, h4⟩ := row_walk s r hr k P hs hk
  rw [h] at h4
  obtain ⟨rfl, h4⟩ := h4
  exact ⟨σ', h1, (h2.2.mem h4).2, rfl, (h2.2.mem h3).2, rfl, trivial⟩
theorem row_RLno {s : ByteArray} {r : Nat} (hr : r < 8) {k : Nat} {P : Nat → Int} {e : Nat} (hs : s.size ≤ 1000) (hk : k ≤ s.size) (h : rowR s r 9 0 true k P = .error e) :
    ∃ P', RL AM 45 [.ptr 0 0 135, .s (.int .i64 (r : Int)), .map 1] [.sc .var 135 (rdG s k P), .mp .var (pcs 12)] (.pan (stk e)) [.sc .var 135 (rdG s e P'), .mp .var (pcs 12)] := by
  obtain ⟨v, σ', n', L', h1, h2, h3, h4⟩ := row_walk s r hr k P hs hk
  rw [h] at h4
  obtain ⟨rfl, P', h4⟩ := h4
  exact ⟨P', σ', h1, (h2.2.mem h4).2, rfl, (h2.2.mem h3).2, rfl, trivial⟩

end Go.Proofs.YtlaogmemhephnaaDoor
/- A whole text read: the walk. -/
set_option linter.unusedVariables false
set_option linter.unusedSimpArgs false
namespace Go.Proofs.YtlaogmemhephnaaDoor
open Go Go.Am

/-- What a reader stands at behind a text that was read, or where it is stuck. -/
def AllK (s : ByteArray) : KR := fun v _ L => match allR s with
  | .ok P' => v = .tup [] ∧ ∃ k, (0, Blk.sc .var 135 (rdG s k P')) ∈ L
  | .error e => v = .pan (stk e) ∧ ∃ k P', (0, Blk.sc .var 135 (rdG s k P')) ∈ L

theorem all_err {s : ByteArray} {e : Nat} (h : rksR s 8 0 (fun _ => 0) = .error e) : allR s = .error e := by
  unfold allR
  rw [h]

theorem all_err2 {s : ByteArray} {e k : Nat} {P : Nat → Int} (h : rksR s 8 0 (fun _ => 0) = .ok (P, k)) (h2 : partsR s 5 0 k P = .error e) : allR s = .error e := by
  unfold allR
  rw [h]
  simp only [h2]
theorem all_ok2 {s : ByteArray} {k k' : Nat} {P P' : Nat → Int} (h : rksR s 8 0 (fun _ => 0) = .ok (P, k)) (h2 : partsR s 5 0 k P = .ok (P', k')) : allR s = if k' < s.size then .error k' else .ok P' := by
  unfold allR
  rw [h]
  simp only [h2]

abbrev partsV : List V := [.fn 47 [.ptr 1 0 1], .bm 49 (.ptr 0 0 135), .bm 50 (.ptr 0 0 135), .fn 51 [.ptr 1 0 1], .fn 53 [.ptr 1 0 1]]

theorem numP_ok {s : ByteArray} {c k : Nat} {P : Nat → Int} (h : takeC s k digS = true) : numP s c P k = .ok (ov P c ((numR s 5 (k + 1) (digV s k)).2 : Int), (numR s 5 (k + 1) (digV s k)).1) := by
  unfold numP numberR
  rw [if_pos h]; rfl
theorem numP_no {s : ByteArray} {c k : Nat} {P : Nat → Int} (h : takeC s k digS = false) : numP s c P k = .error k := by
  unfold numP numberR
  rw [if_neg (by rw [h]; decide)]; rfl

section
variable {N : Nat} {f : FE} {n : Nat} {L : HA} {K : KN} {Zp : V → KN} {l : List I} {d : Nat} {x : O} {s : ByteArray} {k : Nat} {P : Nat → Int}

/-- A method bound to the reader. -/
theorem WO_bound {fid : FuncId} {r : Except Nat ((Nat → Int) × Nat)} (hd : Does fid [] s k P r) (hf : x.fv N f = .bm fid (.ptr 0 0 135)) {L' : Blk → HA} (hat : ∀ B, At 0 (.sc .var 135 (rdG s k P)) B L (L' B))
    (kok : ∀ P' k', r = .ok (P', k') → WO AM N l (upd f d (.tup [])) n (L' (.sc .var 135 (rdG s k' P'))) K Zp) (kno : ∀ e P', r = .error e → Zp (stk e) f n (L' (.sc .var 135 (rdG s e P')))) : WO AM N (⟨some d, none, .h (.call x [])⟩ :: l) f n L K Zp := by
  cases r with
  | ok w =>
    obtain ⟨P', k'⟩ := w
    exact WO_callL (fv := .bm fid (.ptr 0 0 135)) (args := []) (av := [.ptr 0 0 135]) (rs := [0]) (Bs := [_]) hf rfl rfl hd rfl (Nat.le_of_ble_eq_true rfl) (fun _ h => h) rfl ⟨(hat .dead).mem, rfl, trivial⟩ rfl rfl (.cons (hat _) .nil) (kok P' k' rfl)
  | error e =>
    obtain ⟨P', hd⟩ := hd
    exact WO_callX (fv := .bm fid (.ptr 0 0 135)) (args := []) (av := [.ptr 0 0 135]) (rs := [0]) (Bs := [_]) hf rfl rfl hd rfl (Nat.le_of_ble_eq_true rfl) (fun _ h => h) rfl ⟨(hat .dead).mem, rfl, trivial⟩ rfl rfl (.cons (hat _) .nil) (kno e P' rfl)

theorem WO_part {i : Nat} (hi : i < 5) (hf : some (x.fv N f) = partsV[i]?) (hs : s.size ≤ 1000) (hk : k ≤ s.size) (hP : i = 1 → P 129 = 0) (hb : (1, Blk.vs .var [.ptr 0 0 135]) ∈ L) {L' : Blk → HA} (hat : ∀ B, At 0 (.sc .var 135 (rdG s k P)) B L (L' B))
    (kok : ∀ P' k', innR s i P k = .ok (P', k') → WO AM N l (upd f d (.tup [])) n (L' (.sc .var 135 (rdG s k' P'))) K Zp) (kno : ∀ e P', innR s i P k = .error e → Zp (stk e) f n (L' (.sc .var 135 (rdG s e P')))) : WO AM N (⟨some d, none, .h (.call x [])⟩ :: l) f n L K Zp := by
  match i, hi with
  | 0, _ =>
    have hf : x.fv N f = _ := Option.some.inj hf
    cases ht : takeC s k wbS with
    | true => exact WO_callBox (side_okW s k P hs hk ht) hf rfl hb (hat _) (kok _ _ (by show sideR s P k = _; unfold sideR; rw [if_pos ht]))
    | false => exact WO_callBoxX (side_noW s k P hs hk ht) hf rfl hb (hat _) (kno k P (by show sideR s P k = _; unfold sideR; rw [if_neg (by rw [ht]; decide)]))
  | 1, _ => exact WO_bound (castle_does s k P hs hk (hP rfl)) (Option.some.inj hf) hat kok kno
  | 2, _ => exact WO_bound (over_does s k P hs hk) (Option.some.inj hf) hat kok kno
  | 3, _ =>
    have hf : x.fv N f = _ := Option.some.inj hf
    cases ht : takeC s k digS with
    | true => exact WO_callBox (half_ok s k P hs hk ht) hf rfl hb (hat _) (kok _ _ (numP_ok ht))
    | false => exact WO_callBoxX (half_no s k P hs hk ht) hf rfl hb (hat _) (kno k P (numP_no ht))
  | 4, _ =>
    have hf : x.fv N f = _ := Option.some.inj hf
    cases ht : takeC s k digS with
    | true => exact WO_callBox (full_ok s k P hs hk ht) hf rfl hb (hat _) (kok _ _ (numP_ok ht))
    | false => exact WO_callBoxX (full_no s k P hs hk ht) hf rfl hb (hat _) (kno k P (numP_no ht))
end

theorem all_walk (s : ByteArray) (hs : s.size ≤ 1000) : WR AM 25 [.ptr 0 0 135] [.sc .var 135 (rdG s 0 (fun _ => 0))] (AllK s) := by
  refine WR_fn (a := a25) rfl rfl (entryF _) (entry_E (Nat.le_of_ble_eq_true rfl)) (m := 1) rfl ?_
  refine WP_seq (WP_ops (WO_boxV rfl rfl (WO_nil ?_)))
  refine WP_seq (WP_ops (WO_callN0 One_map pcs_loose rfl pieces_RN (WO_mv rfl (WO_nil ?_))))
  refine WP_cut (fun f n L => ∃ k P, 2 < n ∧ rksR s 8 0 (fun _ => 0) = .ok (P, k) ∧ k ≤ s.size ∧ f 1 = .ptr 1 0 1 ∧ L = [(2, .mp .var (pcs 12)), (1, .vs .var [.ptr 0 0 135]), (0, .sc .var 135 (rdG s k P))]) ?_ ?_
  · refine WP_seq (WP_ops (WO_mv rfl (WO_nil ?_)))
    refine WP_block ?_
    refine WP_loop (fun m f n L => ∃ (j k : Nat) (P : Nat → Int), 2 < n ∧ m = j ∧ j ≤ 8 ∧ k ≤ s.size ∧ rksR s j k P = rksR s 8 0 (fun _ => 0) ∧ f 1 = .ptr 1 0 1 ∧ f 2 = .map 2 ∧ f 3 = .s (.int .i64 ((j : Int) - 1)) ∧ L = [(2, .mp .var (pcs 12)), (1, .vs .var [.ptr 0 0 135]), (0, .sc .var 135 (rdG s k P))]) (fun m f n L hI => ?_) 8 ⟨8, 0, _, by omega, rfl, by omega, by omega, rfl, rfl, rfl, rfl, rfl⟩
    obtain ⟨j, k, P, hn, hm, hj, hk, he, k1, k2, k3, rfl⟩ := hI
    cases j with
    | zero =>
      refine WP_know (d := 1) k1 ?_
      refine WP_know (d := 3) k3 ?_
      refine WP_seq (WP_seq (WP_ops ?_))
      refine WO_mv (v := .s (.int _ _)) rfl (WO_bin (r := .bool false) rfl rfl rfl (WO_nil ?_))
      refine WP_cond rfl (fun h => by cases h) (fun _ => ?_)
      refine WP_exit (xhere ?_)
      exact ⟨_, .refl _, k, P, hn, he.symm, hk, rfl, rfl⟩
    | succ j =>
    have ej : (((j + 1 : Nat) : Int) - 1) = (j : Int) := by omega
    rw [ej] at k3
    refine WP_know (d := 1) k1 ?_
    refine WP_know (d := 2) k2 ?_
    refine WP_know (d := 3) k3 ?_
    refine WP_seq (WP_seq (WP_ops ?_))
    refine WO_mv (v := .s (.int _ _)) rfl (WO_bin (r := .bool true) rfl rfl (by show some (S.bool (decide _)) = _; rw [decide_eq_true (by omega)]) (WO_nil ?_))
    refine WP_cond rfl (fun _ => ?_) (fun h => by cases h)
    rw [rksR] at he
    refine WP_skip ?_
    refine WP_seq (WP_block (WP_seq (WP_ops ?_)))
    refine WO_ldV rfl rfl (.tail _ (.head _)) rfl ?_
    refine WO_mv (v := .s (.int _ _)) rfl (WO_mv rfl ?_)
    cases hrow : rowR s j 9 0 true k P with
    | error e =>
      rw [hrow] at he
      obtain ⟨P', hrl⟩ := row_RLno (show j < 8 by omega) hs hk hrow
      refine WO_callX (av := [.ptr 0 0 135, .s (.int .i64 (j : Int)), .map 2]) (rs := [0, 2]) (Bs := [_, _]) rfl rfl rfl hrl rfl (Nat.le_of_ble_eq_true rfl) (fun _ h => h) rfl ⟨.tail _ (.tail _ (.head _)), rfl, .head _, pcs_loose, trivial⟩ rfl rfl (.cons (.there (.there .here)) (.cons .here .nil)) ?_
      show AllK s _ _ _
      unfold AllK
      rw [all_err he.symm]
      exact ⟨rfl, _, _, .tail _ (.tail _ (.head _))⟩
    | ok rr =>
      obtain ⟨P', k'⟩ := rr
      rw [hrow] at he
      simp only at he
      obtain ⟨hk', _⟩ := row_keep (show j < 8 by omega) _ _ _ _ _ _ _ hk hrow
      refine WO_callL (av := [.ptr 0 0 135, .s (.int .i64 (j : Int)), .map 2]) (rs := [0, 2]) (Bs := [_, _]) rfl rfl rfl (row_RLok (show j < 8 by omega) hs hk hrow) rfl (Nat.le_of_ble_eq_true rfl) (fun _ h => h) rfl ⟨.tail _ (.tail _ (.head _)), rfl, .head _, pcs_loose, trivial⟩ rfl rfl (.cons (.there (.there .here)) (.cons .here .nil)) (WO_nil ?_)
      refine WP_seq (WP_ops ?_)
      refine WO_mv (v := .s (.int _ _)) rfl (WO_bin (r := .bool _) rfl rfl rfl (WO_nil ?_))
      refine WP_cond rfl (fun h => ?_) (fun h => ?_)
      · simp only [NM] at h
        rw [if_pos (by omega)] at he
        refine WP_ops ?_
        refine WO_ldV rfl rfl (.tail _ (.head _)) rfl ?_
        refine WO_mkslG rfl (.one rfl .nil) ?_
        cases ht : takeC s k' slaS with
        | false =>
          rw [if_neg (by rw [ht]; decide)] at he
          refine WO_mustN (J := slaS) rfl rfl (by omega) (some_one rfl) hs hk' ht (.head _) (.tail _ (.tail _ (.tail _ (.head _)))) ?_
          show AllK s _ _ _
          unfold AllK
          rw [all_err he.symm]
          exact ⟨rfl, _, _, .tail _ (.tail _ (.tail _ (.head _)))⟩
        | true =>
          rw [if_pos ht] at he
          have hlt := take_lt ht
          refine WO_mustY (J := slaS) rfl rfl (by omega) (some_one rfl) hs sla0 ht rfl (.head _) (.there (.there (.there .here))) (WO_nil ?_)
          refine WP_ops ?_
          refine WO_mv (v := .s (.int _ _)) rfl (WO_sub rfl rfl (by omega) (WO_mv (v := .s (.int _ _)) rfl (WO_nil ?_)))
          exact ⟨j, _, by omega, .cons _ (.refl _), j, k' + 1, P', by omega, rfl, by omega, by omega, he, rfl, rfl, rfl, rfl⟩
      · simp only [NM] at h
        rw [if_neg (by omega)] at he
        obtain rfl : j = 0 := by omega
        refine WP_skip ?_
        refine WP_ops ?_
        refine WO_mv (v := .s (.int _ _)) rfl (WO_sub rfl rfl (by omega) (WO_mv (v := .s (.int _ _)) rfl (WO_nil ?_)))
        exact ⟨0, _, by omega, .refl _, 0, k', P', by omega, rfl, by omega, by omega, he, rfl, rfl, rfl, rfl⟩
  rintro f n L ⟨k0, P0, hn, hrk, hk0, g1, rfl⟩
  have hP0 : P0 129 = 0 := (rks_keep _ _ _ _ _ (Nat.le_refl 8) (Nat.zero_le _) hrk).2 129 (by omega)
  refine WP_know (d := 1) g1 ?_
  refine WP_seq (WP_ops ?_)
  refine WO_mkfn rfl (WO_ldV rfl rfl (.tail _ (.head _)) rfl ?_)
  refine WO_p (v := .bm _ (.ptr 0 0 135)) rfl ?_
  refine WO_ldV rfl rfl (.tail _ (.head _)) rfl ?_
  refine WO_p (v := .bm _ (.ptr 0 0 135)) rfl ?_
  refine WO_mkfn rfl (WO_mkfn rfl ?_)
  refine WO_build (v := .aggv partsV) rfl ?_
  refine WO_alloctV rfl ?_
  refine WO_stVA (c := partsV) rfl rfl rfl rfl rfl rfl rfl rfl .here (WO_nil ?_)
  refine WP_cut (fun f n L => ∃ k P, 2 < n ∧ partsR s 5 0 k0 P0 = .ok (P, k) ∧ k ≤ s.size ∧ f 1 = .ptr 1 0 1 ∧ L = [(1, .vs .var [.ptr 0 0 135]), (0, .sc .var 135 (rdG s k P))]) ?_ ?_
  · refine WP_seq (WP_ops ?_)
    refine WO_ldVA rfl rfl (.head _) rfl rfl (WO_mv (v := .s (.int _ _)) rfl (WO_nil ?_))
    refine WP_block ?_
    refine WP_sub (L' := [_, _]) (.cons _ (.cons _ (.cons_cons _ (.cons_cons _ (.refl _))))) ?_
    refine WP_loop (fun m f n L => ∃ (i k : Nat) (P : Nat → Int), 2 < n ∧ i ≤ 5 ∧ m = 5 - i ∧ k ≤ s.size ∧ (i ≤ 1 → P 129 = 0) ∧ partsR s (5 - i) i k P = partsR s 5 0 k0 P0 ∧ f 1 = .ptr 1 0 1 ∧ f 29 = .aggv partsV ∧ f 30 = .s (.int .i64 (i : Int)) ∧ L = [(1, .vs .var [.ptr 0 0 135]), (0, .sc .var 135 (rdG s k P))]) (fun m f n L hI => ?_) 5 ⟨0, k0, P0, by omega, by omega, rfl, hk0, fun _ => hP0, rfl, rfl, rfl, rfl, rfl⟩
    obtain ⟨i, k, P, hn, hi, hm, hk, hP, he, k1, k29, k30, rfl⟩ := hI
    refine WP_know (d := 1) k1 ?_
    refine WP_know (d := 29) k29 ?_
    refine WP_know (d := 30) k30 ?_
    refine WP_seq (WP_ops ?_)
    by_cases h5 : i = 5
    · subst h5
      refine WO_bin (r := .bool false) rfl rfl rfl (WO_nil ?_)
      refine WP_seq (WP_cond rfl (fun h => by cases h) (fun _ => WP_exit (xhere ?_)))
      exact ⟨_, .refl _, k, P, hn, he.symm, hk, rfl, rfl⟩
    refine WO_bin (r := .bool true) rfl rfl (by show some (S.bool (decide _)) = _; rw [decide_eq_true (by omega)]) (WO_nil ?_)
    refine WP_seq (WP_cond rfl (fun _ => WP_skip ?_) (fun h => by cases h))
    refine WP_seq (WP_block (WP_seq (WP_ops ?_)))
    have hi5 : i < 5 := by omega
    obtain ⟨pv, hpv⟩ : ∃ pv, partsV[i]? = some pv := ⟨_, List.getElem?_eq_getElem (show i < partsV.length from hi5)⟩
    refine WO_ixV rfl rfl rfl (by omega) (by rw [show ((i : Int)).toNat * 1 = i by omega]; exact hpv) ?_
    refine WO_mv rfl (WO_nil ?_)
    refine WP_seq (WP_ops ?_)
    refine WO_ldV rfl rfl (.head _) rfl ?_
    refine WO_mkslG rfl (.one rfl .nil) ?_
    obtain ⟨j, hj⟩ : ∃ j, 5 - i = j + 1 := ⟨4 - i, by omega⟩
    rw [hj, partsR, partR] at he
    cases ht : takeC s k spcS with
    | false =>
      unfold spR at he
      rw [if_neg (by rw [ht]; decide)] at he
      refine WO_mustN (J := spcS) rfl rfl (by omega) (some_one rfl) hs hk ht (.head _) (.tail _ (.tail _ (.head _))) ?_
      show AllK s _ _ _
      unfold AllK
      rw [all_err2 hrk he.symm]
      exact ⟨rfl, _, _, .tail _ (.tail _ (.head _))⟩
    | true =>
      have hlt := take_lt ht
      unfold spR at he
      rw [if_pos ht] at he
      refine WO_mustY (J := spcS) rfl rfl (by omega) (some_one rfl) hs spc0 ht rfl (.head _) (.there (.there .here)) (WO_nil ?_)
      refine WP_ops (WO_mv rfl ?_)
      refine WO_part (i := i) (P := P) (k := k + 1) (L' := fun B => [_, _, (0, B)]) hi5 hpv.symm hs hlt (fun h => hP (by omega)) (.tail _ (.head _)) (fun B => .there (.there .here)) (fun P' k' hr => ?_) (fun e P' hr => ?_)
      · rw [hr] at he
        simp only at he
        obtain ⟨hk', hP'⟩ := inn_keep hlt hr
        refine WO_nil ?_
        refine WP_ops (WO_add rfl rfl (by omega) (WO_mv (v := .s (.int _ _)) rfl (WO_nil ?_)))
        exact ⟨5 - (i + 1), _, by omega, .cons _ (.refl _), i + 1, k', P', by omega, by omega, rfl, hk', fun h => (hP' (by omega)).trans (hP (by omega)), by rw [show 5 - (i + 1) = j by omega]; exact he, rfl, rfl, by rw [show ((i + 1 : Nat) : Int) = (i : Int) + 1 by omega]; rfl, rfl⟩
      · rw [hr] at he
        show AllK s _ _ _
        unfold AllK
        rw [all_err2 hrk he.symm]
        exact ⟨rfl, _, _, .tail _ (.tail _ (.head _))⟩
  rintro f n L ⟨k, P, hn, hp, hk, g1, rfl⟩
  have hall := all_ok2 hrk hp
  refine WP_know (d := 1) g1 ?_
  refine WP_seq (WP_par ?_)
  refine WO_ldV rfl rfl (.head _) rfl ?_
  refine WO_nilckP rfl (WO_fa (o' := 0) rfl rfl rfl (WO_fa (o' := 1) rfl rfl rfl ?_))
  refine WO_ldS rfl rfl (.tail _ (.head _)) rfl ?_
  refine WO_ldV rfl rfl (.head _) rfl ?_
  refine WO_nilckP rfl (WO_fa (o' := 0) rfl rfl rfl (WO_fa (o' := 0) rfl rfl rfl ?_))
  refine WO_ldS rfl rfl (.tail _ (.head _)) rfl ?_
  refine WO_lenS rfl (WO_bin (r := .bool _) rfl rfl rfl (WO_nil ?_))
  refine WP_cond rfl (fun h => ?_) (fun h => ?_)
  · simp only [NM] at h
    rw [if_pos (by omega)] at hall
    refine WP_ops ?_
    refine WO_ldV rfl rfl (.head _) rfl ?_
    refine WO_nilckP rfl (WO_fa (o' := 0) rfl rfl rfl (WO_fa (o' := 1) rfl rfl rfl ?_))
    refine WO_ldS rfl rfl (.tail _ (.head _)) rfl ?_
    refine WO_buildI rfl (.one rfl .nil) ?_
    refine WO_p (v := stk k) rfl ?_
    refine WO_pnc rfl ?_
    show AllK s _ _ _
    unfold AllK
    rw [hall]
    exact ⟨rfl, _, _, .tail _ (.head _)⟩
  · simp only [NM] at h
    rw [if_neg (by omega)] at hall
    refine WP_skip ?_
    refine ⟨_, RS_nil, ?_⟩
    unfold AllK
    rw [hall]
    exact ⟨rfl, _, .tail _ (.head _)⟩

end Go.Proofs.YtlaogmemhephnaaDoor
/- The parse's deferred closure: its two contracts. -/
set_option linter.unusedVariables false
set_option linter.unusedSimpArgs false
namespace Go.Proofs.YtlaogmemhephnaaDoor
open Go Go.Am

/-- Parts of a body. -/
def cL : Code → Code
  | .seq a _ => a
  | c => c
def cR : Code → Code
  | .seq _ b => b
  | c => c
def cOps : Code → Array Oper
  | .region _ ops _ => ops
  | _ => #[]
def cThen : Code → Code
  | .cond _ a _ => a
  | c => c

noncomputable abbrev dB : Code := Tryd.f24.body.getD .skip
/-- The closure's last region: what is thrown is told. -/
noncomputable abbrev dZ : Code := cR (cR (cThen (cR (cR dB))))

def dL : List I := [⟨some 17, none, .p (.build (.ints 133) [])⟩,
  ⟨some 18, none, .p (.fa 0 1 (.t 4))⟩,
  ⟨some 19, none, .h (.load false 1 (.t 18))⟩,
  ⟨none, none, .h (.store 133 (.t 0) (.t 17))⟩,
  ⟨none, none, .h (.store 1 (.t 1) (.t 19))⟩,
  ⟨none, none, .h (.store 1 (.t 2) (.k (.s (.int .i64 13))))⟩]
theorem dC : compL Tryd.prog (cOps dZ).toList (cOps dZ).toList = some dL := by kernel_rfl
theorem dO : ordersF (cOps dZ) (cOps dZ).size (Array.replicate (cOps dZ).size false) = [[0, 1, 2, 3, 4, 5], [0, 1, 3, 2, 4, 5], [0, 3, 1, 2, 4, 5], [1, 0, 2, 3, 4, 5], [1, 0, 3, 2, 4, 5], [1, 2, 0, 3, 4, 5]] := by kernel_rfl

abbrev zro : Nat → S := ia fun _ => 0
abbrev onI (x : Int) : Nat → S := fun _ => .int .i64 x
/-- The results' blocks: a position, a place, an error; and what was thrown. -/
abbrev dH (k : Int) : Heap := [.sc .var 133 zro, .sc .var 1 (onI 0), .sc .var 1 (onI 0), .sc .var 1 (onI k)]
abbrev dE : Env := [.ptr 0 0 133, .ptr 1 0 1, .ptr 2 0 1, .undef, .ptr 3 0 1, .undef, .undef, .undef, .undef, .undef, .undef, .undef, .undef, .undef, .undef, .undef, .undef, .undef, .undef, .undef]

theorem over_self (n : Nat) (g : Nat → S) : over g 0 n g = g := by
  funext i
  unfold over
  cases (Nat.ble 0 i && Nat.blt i (0 + n)) <;> rfl

/-- Each order comes to the same. -/
theorem d_run (k : Int) (p : List Nat) (hp : p ∈ [[0, 1, 2, 3, 4, 5], [0, 1, 3, 2, 4, 5], [0, 3, 1, 2, 4, 5], [1, 0, 2, 3, 4, 5], [1, 0, 3, 2, 4, 5], [1, 2, 0, 3, 4, 5]]) :
    opsX (Run AM) (pickL dL p) dE (dH k) = some (.normal, [.ptr 0 0 133, .ptr 1 0 1, .ptr 2 0 1, .undef, .ptr 3 0 1, .undef, .undef, .undef, .undef, .undef, .undef, .undef, .undef, .undef, .undef, .undef, .undef, .agg 133 zro, .ptr 3 0 1, .s (.int .i64 k)],
      [.sc .var 133 (over zro 0 133 zro), .sc .var 1 (over (onI 0) 0 1 (onI k)), .sc .var 1 (over (onI 0) 0 1 (onI 13)), .sc .var 1 (onI k)]) := by
  simp only [List.mem_cons, List.not_mem_nil, or_false] at hp
  rcases hp with rfl | rfl | rfl | rfl | rfl | rfl <;> rfl

end Go.Proofs.YtlaogmemhephnaaDoor
/- The parse's deferred closure: its two contracts. -/
set_option linter.unusedVariables false
set_option linter.unusedSimpArgs false
namespace Go.Proofs.YtlaogmemhephnaaDoor
open Go Go.Am

theorem catch_idle (p q r : Value) (w : World) :
    CallsD Tryd.prog 24 #[p, q, r] .returning w fun e u' w' => e = .returned (.tuple #[]) ∧ u' = .returning ∧ w' = w := by
  refine callsD_of_wpS Tryd.func24 rfl fun c₀ cs hu => ?_
  apply wpS_seq
  apply wpS_region
  simp [wpOpsS, go_sem, recoverD, hu, Tryd.ntmps24, Exit.thenS]
  apply wpS_seq
  apply wpS_region
  simp [wpOpsS, go_sem, Exit.thenS]
  refine wpS_cond (t := false) (by simp [Act.eval, Array.replicate]) ?_
  simp only [Bool.false_eq_true, if_false]
  refine wpS_of_wp (wp_skip ?_)
  cases c₀
  simp_all [bodyPostS, results, Tryd.results24]

theorem assert_stuck (v : Value) (w : World) : (Instr.typeAssert (.iface 49 v) 20 49 true).run Tryd.prog w = .ok (.tuple #[v, .bool true]) w := by
  simp [Instr.typeAssert, go_sem, Tryd.underlying49]

/-- The results' blocks alone. -/
abbrev dH3 : Heap := [.sc .var 133 zro, .sc .var 1 (onI 0), .sc .var 1 (onI 0)]
/-- What is told there. -/
abbrev dT (k : Int) : Heap := [.sc .var 133 (over zro 0 133 zro), .sc .var 1 (over (onI 0) 0 1 (onI k)), .sc .var 1 (over (onI 0) 0 1 (onI 13)), .sc .var 1 (onI k)]

theorem dEnv {ι : Inj} {A : Array Value} {p q r z : Value} (hs : A.size = 20) (g0 : A[0]? = some p) (g1 : A[1]? = some q) (g2 : A[2]? = some r) (g4 : A[4]? = some z) (h0 : VR ι (.ptr 0 0 133) p) (h1 : VR ι (.ptr 1 0 1) q) (h2 : VR ι (.ptr 2 0 1) r) (h4 : VR ι (.ptr 3 0 1) z) : EnvR ι dE A := by
  obtain ⟨l⟩ := A
  refine VRL.of_at (by simpa using hs.symm) fun i x v hx hv => ?_
  simp at g0 g1 g2 g4
  match i with
  | 0 => rw [g0] at hv; cases hx; cases hv; exact h0
  | 1 => rw [g1] at hv; cases hx; cases hv; exact h1
  | 2 => rw [g2] at hv; cases hx; cases hv; exact h2
  | 3 => cases hx; trivial
  | 4 => rw [g4] at hv; cases hx; cases hv; exact h4
  | i + 5 =>
    have hx : (List.replicate 15 V.undef)[i]? = some x := hx
    rw [List.getElem?_replicate] at hx
    split at hx
    · injection hx with hx; subst hx; trivial
    · cases hx

set_option maxHeartbeats 1000000 in
set_option maxRecDepth 100000 in
theorem catch_pan [Tabs] {ι : Inj} {W : World} (hR : RelW ι dH3 W) (hD : Dom ι dH3) {p q r : Value} (h0 : VR ι (.ptr 0 0 133) p) (h1 : VR ι (.ptr 1 0 1) q) (h2 : VR ι (.ptr 2 0 1) r) (k : Int) (older : List PanicEntry) :
    CallsD Tryd.prog 24 #[p, q, r] (.panicking ({ v := .iface 49 (.agg #[.int .i64 k]), recovered := false } :: older)) W fun e u' w' => e = .returned (.tuple #[]) ∧ u' = .panicking ({ v := .iface 49 (.agg #[.int .i64 k]), recovered := true } :: older) ∧ ∃ ι', Post ι dH3 W ι' (dT k) w' := by
  refine callsD_of_wpS Tryd.func24 rfl fun c₀ cs hu => ?_
  apply wpS_seq
  apply wpS_region
  simp [wpOpsS, go_sem, recoverD, hu, Tryd.ntmps24, Exit.thenS]
  apply wpS_seq
  apply wpS_region
  simp [wpOpsS, go_sem, Exit.thenS]
  refine wpS_cond (t := true) (by simp [Act.eval, Array.replicate]) ?_
  simp only [if_true]
  apply wpS_seq
  apply wpS_region
  have hta := fun v w => assert_stuck v w
  simp [wpOpsS, go_sem, Exit.thenS, hta]
  apply wpS_seq
  apply wpS_seq
  apply wpS_region
  simp [wpOpsS, go_sem, Exit.thenS]
  refine wpS_cond (t := false) (by simp [Act.eval, Array.replicate]) ?_
  simp only [Bool.false_eq_true, if_false]
  refine wpS_of_wp (wp_skip ?_)
  simp only [Exit.thenS]
  have hn : ι dH3.length = none := by
    cases q : ι dH3.length with
    | none => rfl
    | some x => exact absurd (hD _ _ q) (Nat.lt_irrefl _)
  have q2 := alloc_q hR hn (.cells #[.int .i64 k] 49) (.sc .var 1 (onI k)) ⟨W.heap.size, 0, 1, 0, 1⟩ rfl ⟨rfl, fun i hi => by
    obtain rfl : i = 0 := by omega
    rw [Lib.cell_of_heap (heap_alloc_at W _)]; rfl, fun _ => ⟨rfl, Nat.le_refl _, _, _, heap_alloc_at W _, rfl, trivial⟩⟩
  have hD2 := q2.post.dom hD
  have hx : exec (Run AM) 0 (.parc (ordersF (cOps dZ) (cOps dZ).size (Array.replicate (cOps dZ).size false)) dL) dE (dH k) = some (.normal, [.ptr 0 0 133, .ptr 1 0 1, .ptr 2 0 1, .undef, .ptr 3 0 1, .undef, .undef, .undef, .undef, .undef, .undef, .undef, .undef, .undef, .undef, .undef, .undef, .agg 133 zro, .ptr 3 0 1, .s (.int .i64 k)], dT k) := by
    rw [dO]
    have hl : opsX (Run AM) dL dE (dH k) = _ := d_run k [0, 1, 2, 3, 4, 5] (.head _)
    simp only [exec]
    rw [if_pos fun p hp => by rw [d_run k p hp, hl]; exact sameR_refl _, hl]
  refine wpS_of_wp (parc_sound runOK (by kernel_rfl) dC (ι := ι.put dH3.length ⟨W.heap.size, 0, 1, 0, 1⟩) (e := dE) (σ := dH k) ?_ q2.rel hD2 hx _ ?_)
  · have e4 : VR (ι.put dH3.length ⟨W.heap.size, 0, 1, 0, 1⟩) (.ptr 3 0 1) (.pointer (some { block := W.heap.size, off := 0 })) := ⟨_, Inj.put_same _ _ _, Nat.le_refl _, rfl⟩
    exact dEnv (by simp) (by simp) (by simp) (by simp) (by simp) (h0.ext q2.ext _ _) (h1.ext q2.ext _ _) (h2.ext q2.ext _ _) e4
  · rintro a' W' ι' y rfl hE hP hd
    exact ⟨hd, _, rfl, _, by simp [results, Tryd.results24], rfl, rfl, ι', q2.post.trans hD hP⟩

end Go.Proofs.YtlaogmemhephnaaDoor
/- A text parsed: the walk, with its deferred closure. -/
set_option linter.unusedVariables false
set_option linter.unusedSimpArgs false
namespace Go.Proofs.YtlaogmemhephnaaDoor
open Go Go.Am Go.RowKit

/-- What a text is parsed as: a position, a place, an error. -/
def parseR (s : ByteArray) : (Nat → Int) × Int × Int :=
  if 128 < s.size then (fun _ => 0, 0, 3) else match allR s with
    | .error e => (fun _ => 0, (e : Int), 13)
    | .ok P => if rightM P = true then (P, 0, 0) else (fun _ => 0, 0, 2)
def tup3 (r : (Nat → Int) × Int × Int) : V := .tup [.agg 133 (ia r.1), .s (.int .i64 r.2.1), .s (.int .i64 r.2.2)]
abbrev parseV (s : ByteArray) : V := tup3 (parseR s)

noncomputable abbrev pB : Code := Tryd.f10.body.getD .skip
abbrev qL : AC → AC
  | .seq a _ => a
  | c => c
abbrev qR : AC → AC
  | .seq _ b => b
  | c => c
abbrev qOps : AC → List I
  | .ops l => l
  | _ => []
abbrev qB : AC := a10.body

theorem pcA : compC Tryd.prog false (cL pB) = some (qL qB) := by kernel_rfl
theorem pcB : compC Tryd.prog false (cL (cR pB)) = some (qL (qR qB)) := by kernel_rfl
theorem pc4 : compC Tryd.prog false (cL (cR (cR (cR pB)))) = some (qL (qR (qR (qR qB)))) := by kernel_rfl
theorem pc5 : compL Tryd.prog (cOps (cL (cR (cR (cR (cR pB)))))).toList (cOps (cL (cR (cR (cR (cR pB)))))).toList = some (qOps (qL (qR (qR (qR (qR qB)))))) := by kernel_rfl
theorem pc6 : compC Tryd.prog false (cR (cR (cR (cR (cR pB))))) = some (qR (qR (qR (qR (qR qB))))) := by kernel_rfl
theorem pcR : compR Tryd.prog Tryd.f10.results.toList = some [.cell 2 true 133, .cell 3 false 1, .cell 4 false 1] := by kernel_rfl

theorem wp_WP [Tabs] {c : Code} {ac : AC} {pc : Bool} (hc : compC Tryd.prog pc c = some ac) {N : Nat} {f : FE} {n : Nat} {L : HA} {σ : Heap} {K : KN} {X : Nat → KN} {R : KN} {Zp : V → KN} (hw : WP AM N ac f n L K X R Zp) (hp : Hp σ n L) {ι : Inj} {W : World} {a : Act} (hE : EnvR ι (E N f) a.tmps) (hR : RelW ι σ W) (hD : Dom ι σ) {Q : Exit → Act → World → Prop}
    (hQ : ∀ x y f' σ' n' L' a' W' ι', outK x f' n' L' K X R Zp → ExR ι' x y → Hp σ' n' L' → ((∀ v, x ≠ .panic v) → EnvR ι' (E N f') a'.tmps) → Post ι σ W ι' σ' W' → a'.defers = a.defers → Q y a' W') : c.wp Tryd.prog Q a W := by
  obtain ⟨x, f', σ', n', L', h1, h2, h3⟩ := hw σ hp
  obtain ⟨m, hm⟩ := Exec_to h1
  exact exec_sound (runF_ok fnsOK primsOK (by kernel_rfl) m) (by kernel_rfl) c ac hc m ι σ W _ a x _ σ' hE hR hD hm Q (fun a' W' ι' y hy hE' hP hd => hQ x y f' σ' n' L' a' W' ι' h3 hy h2 hE' hP hd)

/-- The results' blocks, as they lie at the begin, and as they are told. -/
abbrev res3 (P : Nat → Int) (k e : Int) : HA := [(2, .sc .var 1 (onI e)), (1, .sc .var 1 (onI k)), (0, .sc .var 133 (ia P))]
def At3 (f : FE) : Prop := f 2 = .ptr 0 0 133 ∧ f 3 = .ptr 1 0 1 ∧ f 4 = .ptr 2 0 1

theorem walkA (s : ByteArray) : WP AM 28 (qL qB) (entryF [.s (.str s)]) 0 [] (fun f n L => f 0 = .s (.str s) ∧ At3 f ∧ n = 3 ∧ L = res3 (fun _ => 0) 0 0) (fun _ _ _ _ => False) (fun _ _ _ => False) (fun _ _ _ _ => False) :=
  WP_ops (WO_allocI (WO_allocS (WO_allocS (WO_nil ⟨rfl, ⟨rfl, rfl, rfl⟩, rfl, rfl⟩))))

/-- The results are told. -/
def Told (L : HA) (r : (Nat → Int) × Int × Int) : Prop :=
  ∃ g0 g1 g2, (0, Blk.sc .var 133 g0) ∈ L ∧ (1, Blk.sc .var 1 g1) ∈ L ∧ (2, Blk.sc .var 1 g2) ∈ L ∧ (∀ i, i < 133 → g0 i = .int .i64 (r.1 i)) ∧ g1 0 = .int .i64 r.2.1 ∧ g2 0 = .int .i64 r.2.2

theorem zeros_in {i : Nat} (hi : i < 133) (P : Nat → Int) (Q : Nat → Int) (h : Q i = P i) : ia (ovA (fun _ => 0) 0 133 Q) i = .int .i64 (P i) := by
  show S.int .i64 (ovA _ 0 133 Q i) = _
  rw [ovA_at (by omega), ← h]; rfl

theorem walkB (s : ByteArray) (f : FE) (h0 : f 0 = .s (.str s)) (h3 : At3 f) : WP AM 28 (qL (qR qB)) f 3 (res3 (fun _ => 0) 0 0) (fun f n L => s.size ≤ 128 ∧ f 0 = .s (.str s) ∧ At3 f ∧ n = 3 ∧ L = res3 (fun _ => 0) 0 0) (fun _ _ _ _ => False) (fun f n L => At3 f ∧ Told L (parseR s)) (fun _ _ _ _ => False) := by
  obtain ⟨g2, g3, g4⟩ := h3
  refine WP_know (d := 0) h0 (WP_know (d := 2) g2 (WP_know (d := 3) g3 (WP_know (d := 4) g4 ?_)))
  refine WP_seq (WP_ops (WO_mv rfl (WO_lenS rfl (WO_bin (r := .bool _) rfl rfl rfl (WO_nil ?_)))))
  refine WP_cond rfl (fun h => ?_) (fun h => ?_)
  · simp only [NM] at h
    refine WP_seq (WP_ops ?_)
    refine WO_ldAI rfl rfl (.tail _ (.tail _ (.head _))) ?_
    refine WO_stA rfl rfl rfl rfl (.there (.there .here)) ?_
    refine WO_st1 rfl rfl rfl rfl (.there .here) ?_
    refine WO_st1 rfl rfl rfl rfl .here (WO_nil ?_)
    refine WP_ret ⟨⟨rfl, rfl, rfl⟩, _, _, _, .tail _ (.tail _ (.head _)), .tail _ (.head _), .head _, ?_⟩
    unfold parseR
    rw [if_pos (by omega)]
    exact ⟨fun i hi => zeros_in hi (fun _ => 0) _ rfl, rfl, rfl⟩
  · simp only [NM] at h
    exact WP_skip ⟨by omega, rfl, ⟨rfl, rfl, rfl⟩, rfl, rfl⟩

/-- A list of a text, a place and zeros is a reader at the begin. -/
theorem rd_lc (s : ByteArray) : lc (.str s :: .int .i64 0 :: List.replicate 133 (.int .i64 0)) = rdG s 0 (fun _ => 0) := by
  funext i
  match i with
  | 0 => rfl
  | 1 => rfl
  | i + 2 =>
    rw [lc_getD]
    show ((List.replicate 133 (S.int .i64 0))[i]?).getD S.zero = S.int .i64 0
    rw [List.getElem?_replicate]
    split <;> rfl

set_option maxRecDepth 100000 in
theorem walk4 (s : ByteArray) (f : FE) (h0 : f 0 = .s (.str s)) (h3 : At3 f) : WP AM 28 (qL (qR (qR (qR qB)))) f 3 (res3 (fun _ => 0) 0 0) (fun f n L => At3 f ∧ f 5 = .ptr 3 0 135 ∧ n = 4 ∧ L = (3, .sc .var 135 (rdG s 0 (fun _ => 0))) :: res3 (fun _ => 0) 0 0) (fun _ _ _ _ => False) (fun _ _ _ => False) (fun _ _ _ _ => False) := by
  obtain ⟨g2, g3, g4⟩ := h3
  refine WP_know (d := 0) h0 (WP_know (d := 2) g2 (WP_know (d := 3) g3 (WP_know (d := 4) g4 ?_)))
  refine WP_ops (WO_mv rfl ?_)
  refine WO_buildL (m := 2) (zs := [.str s, .int .i64 0]) rfl rfl (.part rfl rfl rfl rfl (.part rfl rfl rfl rfl .nil)) ?_
  refine WO_buildL (m := 135) (zs := .str s :: .int .i64 0 :: List.replicate 133 (.int .i64 0)) rfl rfl (.part rfl rfl rfl rfl .nil) ?_
  refine WO_boxA rfl (WO_mv rfl (WO_nil ?_))
  exact ⟨⟨rfl, rfl, rfl⟩, rfl, rfl, by rw [rd_lc]⟩

theorem walk5 (s : ByteArray) (hs : s.size ≤ 1000) (f : FE) (h5 : f 5 = .ptr 3 0 135) (h3 : At3 f) : WO AM 28 (qOps (qL (qR (qR (qR (qR qB)))))) f 4 ((3, .sc .var 135 (rdG s 0 (fun _ => 0))) :: res3 (fun _ => 0) 0 0)
    (fun f n L => ∃ P k, allR s = .ok P ∧ At3 f ∧ f 5 = .ptr 3 0 135 ∧ L = (3, .sc .var 135 (rdG s k P)) :: res3 (fun _ => 0) 0 0) (fun v f n L => ∃ e, allR s = .error e ∧ v = stk e ∧ At3 f ∧ ∃ G, L = (3, .sc .var 135 G) :: res3 (fun _ => 0) 0 0) := by
  obtain ⟨g2, g3, g4⟩ := h3
  refine WO_know (d := 2) g2 (WO_know (d := 3) g3 (WO_know (d := 4) g4 (WO_know (d := 5) h5 ?_)))
  refine WO_mv rfl ?_
  obtain ⟨v, σ', n', L', h1, h2, h4⟩ := all_walk s hs
  unfold AllK at h4
  cases hr : allR s with
  | ok P =>
    rw [hr] at h4
    obtain ⟨rfl, k, h4⟩ := h4
    exact WO_callL (av := [.ptr 3 0 135]) (rs := [3]) (Bs := [_]) (Bs' := [.sc .var 135 (rdG s k P)]) rfl rfl rfl ⟨σ', h1, (h2.2.mem h4).2, rfl, trivial⟩ rfl (Nat.le_of_ble_eq_true rfl) (fun _ h => h) rfl ⟨.head _, rfl, trivial⟩ rfl rfl (.cons .here .nil) (WO_nil ⟨P, k, rfl, ⟨rfl, rfl, rfl⟩, rfl, rfl⟩)
  | error e =>
    rw [hr] at h4
    obtain ⟨rfl, k, P', h4⟩ := h4
    exact WO_callX (av := [.ptr 3 0 135]) (rs := [3]) (Bs := [_]) (Bs' := [.sc .var 135 (rdG s k P')]) rfl rfl rfl ⟨σ', h1, (h2.2.mem h4).2, rfl, trivial⟩ rfl (Nat.le_of_ble_eq_true rfl) (fun _ h => h) rfl ⟨.head _, rfl, trivial⟩ rfl rfl (.cons .here .nil) ⟨e, rfl, rfl, ⟨rfl, rfl, rfl⟩, _, rfl⟩

theorem walk6 (s : ByteArray) (hs : s.size ≤ 128) (P : Nat → Int) (k n : Nat) (hP : allR s = .ok P) (f : FE) (h5 : f 5 = .ptr 3 0 135) (h3 : At3 f) : WP AM 28 (qR (qR (qR (qR (qR qB))))) f n ((3, .sc .var 135 (rdG s k P)) :: res3 (fun _ => 0) 0 0) (fun _ _ _ => False) (fun _ _ _ _ => False) (fun f n L => At3 f ∧ Told L (parseR s)) (fun _ _ _ _ => False) := by
  obtain ⟨g2, g3, g4⟩ := h3
  have hp : parseR s = if rightM P = true then (P, 0, 0) else (fun _ => 0, 0, 2) := by
    unfold parseR
    rw [if_neg (by omega), hP]
  have hrd : (fun i => rdG s k P (2 + i)) = ia P := by
    funext i
    rw [Nat.add_comm]; rfl
  refine WP_know (d := 2) g2 (WP_know (d := 3) g3 (WP_know (d := 4) g4 (WP_know (d := 5) h5 ?_)))
  refine WP_seq (WP_seq (WP_ops ?_))
  refine WO_mv rfl (WO_nilckP rfl (WO_fa (o' := 2) rfl rfl rfl ?_))
  refine WO_ldA rfl rfl (.head _) hrd ?_
  refine WO_call0 rfl (RF_of (Right_run P)) rfl rfl rfl ?_
  refine WO_un rfl rfl (WO_nil ?_)
  refine WP_cond rfl (fun h => ?_) (fun h => ?_)
  · simp only [Bool.not_eq_true'] at h
    rw [if_neg (by rw [h]; decide)] at hp
    refine WP_seq (WP_ops ?_)
    refine WO_ldAI rfl rfl (.tail _ (.tail _ (.tail _ (.head _)))) ?_
    refine WO_stA rfl rfl rfl rfl (.there (.there (.there .here))) ?_
    refine WO_st1 rfl rfl rfl rfl (.there (.there .here)) ?_
    refine WO_st1 rfl rfl rfl rfl (.there .here) (WO_nil ?_)
    refine WP_ret ⟨⟨rfl, rfl, rfl⟩, _, _, _, .tail _ (.tail _ (.tail _ (.head _))), .tail _ (.tail _ (.head _)), .tail _ (.head _), ?_⟩
    rw [hp]
    exact ⟨fun i hi => zeros_in hi (fun _ => 0) _ rfl, rfl, rfl⟩
  · simp only [Bool.not_eq_false'] at h
    rw [if_pos h] at hp
    refine WP_skip ?_
    refine WP_seq (WP_ops ?_)
    refine WO_mv rfl (WO_nilckP rfl (WO_fa (o' := 2) rfl rfl rfl ?_))
    refine WO_ldA rfl rfl (.head _) hrd ?_
    refine WO_stA rfl rfl rfl rfl (.there (.there (.there .here))) ?_
    refine WO_st1 rfl rfl rfl rfl (.there (.there .here)) ?_
    refine WO_st1 rfl rfl rfl rfl (.there .here) (WO_nil ?_)
    refine WP_ret ⟨⟨rfl, rfl, rfl⟩, _, _, _, .tail _ (.tail _ (.tail _ (.head _))), .tail _ (.tail _ (.head _)), .tail _ (.head _), ?_⟩
    rw [hp]
    exact ⟨fun i hi => zeros_in hi P _ rfl, rfl, rfl⟩

end Go.Proofs.YtlaogmemhephnaaDoor
/- A text parsed: the contract. -/
set_option linter.unusedVariables false
set_option linter.unusedSimpArgs false
namespace Go.Proofs.YtlaogmemhephnaaDoor
open Go Go.Am Go.RowKit

abbrev no0 : Inj := fun _ => none
theorem rel0 [Bas] {ι : Inj} {σ : Heap} {W : World} (hR : RelW ι σ W) : RelW no0 [] W :=
  ⟨fun _ _ h => by simp [no0] at h, fun _ _ _ h => by simp [no0] at h, fun _ _ _ _ h => by simp [no0] at h, fun _ _ h => by simp [no0] at h, hR.bsz, hR.bas⟩

/-- The results' cells, read. -/
abbrev eR : Env := [.undef, .undef, .ptr 0 0 133, .ptr 1 0 1, .ptr 2 0 1, .undef, .undef, .undef, .undef, .undef, .undef, .undef, .undef, .undef, .undef, .undef, .undef, .undef, .undef, .undef, .undef, .undef, .undef, .undef, .undef, .undef, .undef, .undef]

theorem rEnv {ι : Inj} {A : Array Value} {p q r : Value} (hs : A.size = 28) (g2 : A[2]? = some p) (g3 : A[3]? = some q) (g4 : A[4]? = some r) (h2 : VR ι (.ptr 0 0 133) p) (h3 : VR ι (.ptr 1 0 1) q) (h4 : VR ι (.ptr 2 0 1) r) : EnvR ι eR A := by
  obtain ⟨l⟩ := A
  refine VRL.of_at (by simpa using hs.symm) fun i x v hx hv => ?_
  simp at g2 g3 g4
  match i with
  | 0 => cases hx; trivial
  | 1 => cases hx; trivial
  | 2 => rw [g2] at hv; cases hx; cases hv; exact h2
  | 3 => rw [g3] at hv; cases hx; cases hv; exact h3
  | 4 => rw [g4] at hv; cases hx; cases hv; exact h4
  | i + 5 =>
    have hx : (List.replicate 23 V.undef)[i]? = some x := hx
    rw [List.getElem?_replicate] at hx
    split at hx
    · injection hx with hx; subst hx; trivial
    · cases hx

/-- What three temporaries hold. -/
theorem three {ι : Inj} {f : FE} {A : Array Value} (hE : EnvR ι (E 28 f) A) (h3 : At3 f) : A.size = 28 ∧ ∃ p q r, A[2]? = some p ∧ A[3]? = some q ∧ A[4]? = some r ∧ VR ι (.ptr 0 0 133) p ∧ VR ι (.ptr 1 0 1) q ∧ VR ι (.ptr 2 0 1) r := by
  obtain ⟨l⟩ := A
  have hl := VRL.length hE
  obtain ⟨g2, g3, g4⟩ := h3
  obtain ⟨p, hp, rp⟩ := VRL.at hE 2 (f 2) rfl
  obtain ⟨q, hq, rq⟩ := VRL.at hE 3 (f 3) rfl
  obtain ⟨r, hr, rr⟩ := VRL.at hE 4 (f 4) rfl
  rw [g2] at rp; rw [g3] at rq; rw [g4] at rr
  refine ⟨?_, p, q, r, by simpa using hp, by simpa using hq, by simpa using hr, rp, rq, rr⟩
  simpa [E] using hl.symm

theorem tup3_R {ι ι' : Inj} {g0 g1 g2 : Nat → S} {r : (Nat → Int) × Int × Int} {v : Value} (h : VR ι (.tup [.agg 133 (fun i => g0 (0 + i)), .s (g1 0), .s (g2 0)]) v) (h0 : ∀ i, i < 133 → g0 i = .int .i64 (r.1 i)) (h1 : g1 0 = .int .i64 r.2.1) (h2 : g2 0 = .int .i64 r.2.2) : VR ι' (tup3 r) v := by
  rw [h1, h2] at h
  unfold tup3
  simp only [VR, VRL] at h ⊢
  obtain ⟨cs, rfl, v0, r0, rfl, ⟨c0, rfl, hz, hc⟩, h⟩ := h
  refine ⟨_, rfl, _, _, rfl, ⟨c0, rfl, hz, fun i hi => ?_⟩, h⟩
  rw [hc i hi, Nat.zero_add, h0 i hi]

/-- The call's end. -/
def PEnd (s : ByteArray) (W : World) (e : Ending) (W' : World) : Prop := (∃ v, e = .returned v ∧ ∀ ι, VR ι (parseV s) v) ∧ Below W.heap.size W W'

/-- Behind the last deferred call. -/
theorem leaves_nil [Bas] {s : ByteArray} {W W1 : World} {ι : Inj} {f : FE} {σ : Heap} {n : Nat} {L : HA} {A : Array Value} (hE : EnvR ι (E 28 f) A) (h3 : At3 f) (hp : Hp σ n L) (hR : RelW ι σ W1) (ht : Told L (parseR s)) (hb : Below W.heap.size W W1) : Leaves Tryd.prog Tryd.f10 A (PEnd s W) [] .returning W1 := by
  obtain ⟨g0, g1, g2, m0, m1, m2, t0, t1, t2⟩ := ht
  obtain ⟨e2, e3, e4⟩ := h3
  have hx : resOf (E 28 f) σ [.cell 2 true 133, .cell 3 false 1, .cell 4 false 1] = some (.tup [.agg 133 (fun i => g0 (0 + i)), .s (g1 0), .s (g2 0)]) := by
    have hrs : RS 28 f L [.cell 2 true 133, .cell 3 false 1, .cell 4 false 1] [.agg 133 (fun i => g0 (0 + i)), .s (g1 0), .s (g2 0)] :=
      ⟨⟨_, _, _, _, _, _, e2, Nat.le_refl _, m0, rfl⟩, ⟨_, _, _, _, _, _, e3, Nat.le_refl _, m1, rfl⟩, ⟨_, _, _, _, _, _, e4, Nat.le_refl _, m2, rfl⟩, trivial⟩
    unfold resOf
    rw [resL_RS hp hrs]
  obtain ⟨v, hv, hrun⟩ := results_sound (a := ⟨A, []⟩) hE hR pcR hx
  exact ⟨v, hrun, ⟨v, rfl, fun ι' => tup3_R hv t0 t1 t2⟩, hb⟩

theorem post_no [Bas] {W W' : World} {ι' : Inj} {σ' : Heap} (h : Post no0 [] W ι' σ' W') : Below W.heap.size W W' :=
  ⟨h.same.os, h.same.tape, h.same.output, h.same.size, fun c hc => h.frame c hc (fun b p hb => by simp [no0] at hb)⟩

/-- Behind a panic. -/
theorem leaves_pan [Tabs] {s : ByteArray} {k : Nat} {W W1 : World} {ι : Inj} {f : FE} {σ : Heap} {n : Nat} {A : Array Value} {G : Nat → S} {u : Value} {dv : Array Value} (hE : EnvR ι (E 28 f) A) (h3 : At3 f) (hp : Hp σ n ((3, .sc .var 135 G) :: res3 (fun _ => 0) 0 0)) (hP : Post no0 [] W ι σ W1) (hu : VR ι (stk k) u) (hr : parseR s = (fun _ => 0, (k : Int), 13))
    (hd : ∃ p q r, dv = #[p, q, r] ∧ A[2]? = some p ∧ A[3]? = some q ∧ A[4]? = some r) : Leaves Tryd.prog Tryd.f10 A (PEnd s W) [{ target := .fn (.func 24) dv, args := #[] }] (.panicking (chain1 u)) W1 := by
  obtain ⟨hs, p, q, r, a2, a3, a4, r2, r3, r4⟩ := three hE h3
  obtain ⟨p', q', r', rfl, b2, b3, b4⟩ := hd
  rw [a2] at b2; rw [a3] at b3; rw [a4] at b4
  cases b2; cases b3; cases b4
  have hk : u = .iface 49 (.agg #[.int .i64 (k : Int)]) := by
    unfold stk at hu
    simp only [VR] at hu
    obtain ⟨w, rfl, cs, rfl, hz, hc⟩ := hu
    have := hc 0 (by omega)
    obtain ⟨l⟩ := cs
    match l, hz with
    | [x], _ =>
      simp at this
      rw [this]; rfl
  subst hk
  have hpk : pickB false (pos · [0, 1, 2]) σ [0, 1, 2] = some dH3 := by
    have m0 := (hp.2.mem (show (0, Blk.sc .var 133 (ia fun _ => 0)) ∈ _ from .tail _ (.tail _ (.tail _ (.head _))))).2
    have m1 := (hp.2.mem (show (1, Blk.sc .var 1 (onI 0)) ∈ _ from .tail _ (.tail _ (.head _)))).2
    have m2 := (hp.2.mem (show (2, Blk.sc .var 1 (onI 0)) ∈ _ from .tail _ (.head _))).2
    simp only [pickB, m0, m1, m2, Option.bind_some, Blk.ren, lower, cond_false]
  obtain ⟨sR, sD, _, _⟩ := subInj_rel hP.rel hpk rfl
  refine leaves_cons (f := 24) (args := #[p, q, r]) (by simp) (by simp [go_sem]) ?_
  refine (catch_pan (ι := subInj ι [0, 1, 2]) sR sD r2 r3 r4 (k : Int) []).mono ?_
  rintro e u' W2 ⟨rfl, rfl, ι2, hP2⟩
  have s2 := VR.ext hP2.ext _ _ (show VR (subInj ι [0, 1, 2]) (.ptr 0 0 133) p from r2)
  have s3 := VR.ext hP2.ext _ _ (show VR (subInj ι [0, 1, 2]) (.ptr 1 0 1) q from r3)
  have s4 := VR.ext hP2.ext _ _ (show VR (subInj ι [0, 1, 2]) (.ptr 2 0 1) r from r4)
  have hb1 := post_no hP
  have hb : Below W.heap.size W W2 := by
    refine ⟨hP2.same.os.trans hb1.os, hP2.same.tape.trans hb1.tape, hP2.same.output.trans hb1.output, Nat.le_trans hb1.size hP2.same.size, fun c hc => ?_⟩
    rw [← hb1.block c hc]
    refine hP2.frame c (Nat.lt_of_lt_of_le hc hb1.size) fun b x hbx _ he => ?_
    obtain ⟨b', hb'⟩ : ∃ b', ι b' = some x := by
      simp only [subInj] at hbx
      cases hq : ([0, 1, 2] : List Nat)[b]? with
      | none => rw [hq] at hbx; cases hbx
      | some j => rw [hq] at hbx; exact ⟨j, hbx⟩
    rcases (hP.fresh b' x hb' rfl).2 with h | ⟨_, _, h, _⟩
    · omega
    · simp [no0] at h
  have hx : resOf eR (dT k) [.cell 2 true 133, .cell 3 false 1, .cell 4 false 1] = some (.tup [.agg 133 (fun i => over zro 0 133 zro (0 + i)), .s (over (onI 0) 0 1 (onI k) 0), .s (over (onI 0) 0 1 (onI 13) 0)]) := rfl
  obtain ⟨v, hv, hrun⟩ := results_sound (a := ⟨A, []⟩) (rEnv hs a2 a3 a4 s2 s3 s4) hP2.rel pcR hx
  have hfin : Leaves Tryd.prog Tryd.f10 A (PEnd s W) [] .returning W2 := by
    refine ⟨v, hrun, ⟨v, rfl, fun ι' => ?_⟩, hb⟩
    refine tup3_R hv (fun i hi => ?_) ?_ ?_
    · rw [hr]
      show over zro 0 133 zro i = _
      rw [over_self]
    · rw [hr]; rfl
    · rw [hr]; rfl
  exact hfin

end Go.Proofs.YtlaogmemhephnaaDoor
/- A text parsed: the walk put together. -/
set_option linter.unusedVariables false
set_option linter.unusedSimpArgs false
namespace Go.Proofs.YtlaogmemhephnaaDoor
open Go Go.Am Go.RowKit

theorem getD_some {A : Array Value} {i : Nat} {x : Value} (h : A[i]? = some x) : A.getD i Go.undef = x := by
  rw [Array.getD_eq_getD_getElem?, h]; rfl

theorem p_body : Tryd.f10.body = some pB := rfl

theorem p_env (s : ByteArray) : EnvR no0 (E 28 (entryF [.s (.str s)])) (#[Value.string s] ++ Array.replicate 27 Go.undef) := by
  have := VRL.append (show VRL no0 [V.s (.str s)] [Value.string s] from ⟨_, _, rfl, rfl, rfl⟩) (VRL.undefs (ι := no0) 27)
  unfold EnvR
  rw [Array.toList_append, Array.toList_replicate]
  exact this

/-- The region that lays the closure by. -/
noncomputable abbrev pLay : Code := cL (cR (cR pB))

theorem lay_by {A : Array Value} (hsz : A.size = 28) {W : World} {p q r : Value} {Q : Exit → Act → World → Prop} (g2 : A[2]? = some p) (g3 : A[3]? = some q) (g4 : A[4]? = some r)
    (h : Q .normal ((Act.mk A [{ target := .fn (.func 24) #[p, q, r], args := #[] }]).put (some 10) (.func (.func 24) #[] #[p, q, r])) W) : pLay.wp Tryd.prog Q ⟨A, []⟩ W := by
  have hmf : ∀ (fn : Fn) (first cap : Array Value) (w : World), (Instr.makeFunc fn first cap).run Tryd.prog w = .ok (.func fn first cap) w := fun _ _ _ _ => rfl
  have e2 := getD_some g2
  have e3 := getD_some g3
  have e4 := getD_some g4
  show Code.wp _ (.region _ _ false) _ _ _
  apply wp_region
  simp [wpOps, go_sem, hmf, e2, e3, e4, hsz]
  refine .inl (.inl ?_)
  simpa only [Act.put] using h

theorem ptr_one {ι : Inj} {b o z : Nat} {u v : Value} (h : VR ι (.ptr b o z) u) (k : VR ι (.ptr b o z) v) : u = v := by
  simp only [VR] at h k
  obtain ⟨p, hp, _, rfl⟩ := h
  obtain ⟨q, hq, _, rfl⟩ := k
  rw [hp] at hq
  cases hq
  rfl

theorem parse_core [Tabs] {W : World} {s : ByteArray} {cA cB c4 c6 : Code} {id : Nat} {ops : Array Oper} (hA : compC Tryd.prog false cA = some (qL qB)) (hB : compC Tryd.prog false cB = some (qL (qR qB))) (h4 : compC Tryd.prog false c4 = some (qL (qR (qR (qR qB))))) (h5 : compL Tryd.prog ops.toList ops.toList = some (qOps (qL (qR (qR (qR (qR qB)))))))
    (h6 : compC Tryd.prog false c6 = some (qR (qR (qR (qR (qR qB)))))) (hRn : RelW no0 [] W) : (Code.seq cA (.seq cB (.seq pLay (.seq c4 (.seq (.region id ops false) c6))))).wp Tryd.prog (bodyPostD Tryd.prog Tryd.f10 (PEnd s W)) { tmps := #[Value.string s] ++ Array.replicate 27 Go.undef, defers := [] } W := by
  have hDn : Dom no0 [] := fun _ _ h => by simp [no0] at h
  refine wp_seq ?_
  refine wp_WP hA (walkA s) (σ := []) ⟨rfl, trivial⟩ (a := { tmps := #[Value.string s] ++ Array.replicate 27 Go.undef, defers := [] }) (p_env s) hRn hDn ?_
  intro x y f1 σ1 n1 L1 a1 W1 ι1 ho hy hp1 hE1 hP1 hd1
  cases x with
  | exit j => exact ho.elim
  | ret => exact ho.elim
  | panic v => exact ho.elim
  | normal =>
  obtain rfl : y = .normal := hy
  have hE1 := hE1 (fun _ h => by cases h)
  obtain ⟨k0, k3, rfl, rfl⟩ := ho
  have hD1 := hP1.dom hDn
  refine wp_seq ?_
  refine wp_WP hB (walkB s f1 k0 k3) hp1 hE1 hP1.rel hD1 ?_
  intro x y f2 σ2 n2 L2 a2 W2 ι2 ho hy hp2 hE2 hP2 hd2
  have hP2 := hP1.trans hDn hP2
  have hD2 := hP2.dom hDn
  have hd : a2.defers = [] := hd2.trans hd1
  cases x with
  | exit j => exact ho.elim
  | panic v => exact ho.elim
  | ret =>
    obtain rfl : y = .ret := hy
    have hE2 := hE2 (fun _ h => by cases h)
    obtain ⟨k3, ht⟩ := ho
    show Leaves _ _ _ _ a2.defers .returning W2
    rw [hd]
    exact leaves_nil hE2 k3 hp2 hP2.rel ht (post_no hP2)
  | normal =>
  obtain rfl : y = .normal := hy
  have hE2 := hE2 (fun _ h => by cases h)
  obtain ⟨hs, k0, k3, rfl, rfl⟩ := ho
  obtain ⟨hsz, p, q, r, g2, g3, g4, r2, r3, r4⟩ := three hE2 k3
  obtain ⟨A2, ds2⟩ := a2
  obtain rfl : ds2 = [] := hd
  refine wp_seq ?_
  refine lay_by hsz g2 g3 g4 ?_
  have hE3 : EnvR ι2 (E 28 (upd f2 10 .undef)) ((Act.mk A2 [{ target := .fn (.func 24) #[p, q, r], args := #[] }]).put (some 10) (.func (.func 24) #[] #[p, q, r])).tmps := by
    have := EnvR.put (a := Act.mk A2 [{ target := .fn (.func 24) #[p, q, r], args := #[] }]) hE2 (some 10) (x := .undef) (v := .func (.func 24) #[] #[p, q, r]) trivial
    rw [put_E] at this
    exact this
  have k3 : At3 (upd f2 10 .undef) := k3
  refine wp_seq ?_
  refine wp_WP h4 (walk4 s (upd f2 10 .undef) k0 k3) hp2 hE3 hP2.rel hD2 ?_
  intro x y f4 σ4 n4 L4 a4 W4 ι4 ho hy hp4 hE4 hP4 hd4
  cases x with
  | exit j => exact ho.elim
  | panic v => exact ho.elim
  | ret => exact ho.elim
  | normal =>
  obtain rfl : y = .normal := hy
  have hE4 := hE4 (fun _ h => by cases h)
  obtain ⟨k4, k5, rfl, rfl⟩ := ho
  have hP4x := hP4
  have hP4 := hP2.trans hDn hP4
  have hD4 := hP4.dom hDn
  obtain ⟨A4, ds4⟩ := a4
  obtain rfl : ds4 = [{ target := .fn (.func 24) #[p, q, r], args := #[] }] := hd4
  have hx24 := hP4x.ext
  obtain ⟨x, f5, σ5, n5, L5, hx, hp5, ho⟩ := walk5 s (by omega) f4 k5 k4 σ4 hp4
  refine wp_seq ?_
  refine wp_region_list (seqX_sound runOK h5 hE4 hP4.rel hD4 hx ?_)
  intro a5 W5 ι5 y hy hE5 hP5 hd5
  have hx45 := hP5.ext
  have hP5 := hP4.trans hDn hP5
  have hD5 := hP5.dom hDn
  obtain ⟨A5, ds5⟩ := a5
  obtain rfl : ds5 = [{ target := .fn (.func 24) #[p, q, r], args := #[] }] := hd5
  have r2 := (r2.ext hx24 _ _).ext hx45 _ _
  have r3 := (r3.ext hx24 _ _).ext hx45 _ _
  have r4 := (r4.ext hx24 _ _).ext hx45 _ _
  cases x with
  | exit j => exact ho.elim
  | ret => exact ho.elim
  | panic v =>
    obtain ⟨u, rfl, hu⟩ := hy
    obtain ⟨e, hr, rfl, k4, G, rfl⟩ := ho
    obtain ⟨_, p', q', r', a2, a3, a4, b2, b3, b4⟩ := three hE5 k4
    have hpr : parseR s = (fun _ => 0, (e : Int), 13) := by
      unfold parseR
      rw [if_neg (by omega), hr]
    show Leaves _ _ A5 _ _ (.panicking (chain1 u)) W5
    exact leaves_pan hE5 k4 hp5 hP5 hu hpr ⟨p, q, r, rfl, by rw [a2, ptr_one b2 r2], by rw [a3, ptr_one b3 r3], by rw [a4, ptr_one b4 r4]⟩
  | normal =>
  obtain rfl : y = .normal := hy
  obtain ⟨P, k, hr, k4, k5, rfl⟩ := ho
  refine wp_WP h6 (walk6 s hs P k n5 hr f5 k5 k4) hp5 hE5 hP5.rel hD5 ?_
  intro x y f6 σ6 n6 L6 a6 W6 ι6 ho hy hp6 hE6 hP6 hd6
  have hP6 := hP5.trans hDn hP6
  cases x with
  | exit j => exact ho.elim
  | panic v => exact ho.elim
  | normal => exact ho.elim
  | ret =>
    obtain rfl : y = .ret := hy
    have hE6 := hE6 (fun _ h => by cases h)
    obtain ⟨k6, ht⟩ := ho
    show Leaves _ _ a6.tmps _ a6.defers .returning W6
    rw [hd6]
    refine leaves_cons (f := 24) (args := #[p, q, r]) (by simp) (by simp [go_sem]) ?_
    refine (catch_idle p q r W6).mono ?_
    rintro e u' W7 ⟨rfl, rfl, rfl⟩
    exact leaves_nil hE6 k6 hp6 hP6.rel ht (post_no hP6)

theorem parse_calls [Tabs] {ι : Inj} {σ : Heap} {W : World} (hR : RelW ι σ W) (s : ByteArray) : Calls Tryd.prog 10 #[.string s] W (PEnd s W) :=
  calls_of_wp_defers Tryd.func10 p_body (parse_core pcA pcB pc4 pc5 pc6 (rel0 hR))

end Go.Proofs.YtlaogmemhephnaaDoor
/- The machine that is told of the parse. -/
set_option linter.unusedVariables false
set_option linter.unusedSimpArgs false
namespace Go.Proofs.YtlaogmemhephnaaDoor
open Go Go.Am

/-- The parse of a text. -/
def parsePrim : List V → Heap → Option (V × Heap)
  | [.s (.str s)], σ => some (parseV s, σ)
  | _, _ => none
def primF2 (f : FuncId) : Option (List V → Heap → Option (V × Heap)) := bif Nat.beq f 10 then some parsePrim else primF f
def AM2 : AP := { fns := AM.fns, prims := primF2 }

theorem parse_new : primF 10 = none ∧ lookF 10 fnsL = none := ⟨rfl, rfl⟩

/-- What the machine comes to, this one comes to. -/
theorem le2 : LeR (Run AM) (Run AM2) := Run_ext (fun _ _ h => h)
  (fun f pf h => by
    show (bif Nat.beq f _ then some parsePrim else primF f) = some pf
    cases hb : Nat.beq f 10 with
    | true =>
      have := Nat.eq_of_beq_eq_true hb
      subst this
      have h : primF 10 = some pf := h
      rw [parse_new.1] at h; cases h
    | false => exact h)
  (fun f a h ha => by
    show (bif Nat.beq f _ then some parsePrim else primF f) = none
    cases hb : Nat.beq f 10 with
    | true =>
      have := Nat.eq_of_beq_eq_true hb
      subst this
      have ha : lookF 10 fnsL = some a := ha
      rw [parse_new.2] at ha; cases ha
    | false => exact h)

theorem RF2 {f : FuncId} {av : List V} {v : V} (h : RF AM f av v) : RF AM2 f av v := by
  obtain ⟨σ, h⟩ := h
  exact ⟨σ, le2 _ _ _ _ h⟩

theorem primsOK2 [Tabs] : PrimsOK Tryd.prog AM2 := by
  intro f pf hpf args σ v σ' h
  have hb : primF2 f = some pf := hpf
  unfold primF2 at hb
  cases h0 : Nat.beq f 10 with
  | true =>
    rw [h0] at hb; injection hb with hb; subst hb
    obtain rfl := Nat.eq_of_beq_eq_true h0
    refine ⟨⟨_, Tryd.func10, by kernel_rfl, by decide⟩, fun ι W av hR _ hv => ?_⟩
    unfold parsePrim at h
    split at h
    · rename_i s
      injection h with h
      injection h with h1 h2
      subst h1; subst h2
      simp only [VRL, VR, S.val] at hv
      obtain ⟨_, _, rfl, rfl, rfl⟩ := hv
      refine (parse_calls hR s).mono ?_
      rintro e W' ⟨⟨v, rfl, hv⟩, hbl⟩
      exact ⟨ι, v, rfl, hv ι, post_below hR hbl⟩
    · cases h
  | false => rw [h0, cond_false] at hb; exact primsOK f pf hb args σ v σ' h

theorem runOK2 [Tabs] : RunOK Tryd.prog (Run AM2) := run_ok fnsOK primsOK2 (by kernel_rfl)

theorem parse_run (s : ByteArray) : RF AM2 10 [.s (.str s)] (parseV s) := ⟨[], by rw [Run_prim (pf := parsePrim) rfl]; rfl⟩

/-- A position shown: a text and an error. -/
def showR (P : Nat → Int) : ByteArray × Int := if rightM P = true then (showS P, 0) else (⟨#[]⟩, 2)
abbrev tup2 (r : ByteArray × Int) : V := .tup [.s (.str r.1), .s (.int .i64 r.2)]
theorem showV_is (P : Nat → Int) : showV P = tup2 (showR P) := by
  unfold showV showR
  split <;> rfl
theorem show_run (P : Nat → Int) : RF AM2 6 [.agg 133 (ia P)] (tup2 (showR P)) := by
  have := RF_of (Show_walk P)
  rw [showV_is] at this
  exact RF2 this
theorem right_run (P : Nat → Int) : RF AM2 9 [.agg 133 (ia P)] (.s (.bool (rightM P))) := RF2 (RF_of (Right_run P))

/-- The position at the begin. -/
def backK (i : Nat) : Int := bif Nat.beq i 0 || Nat.beq i 7 then 4 else bif Nat.beq i 1 || Nat.beq i 6 then 2 else bif Nat.beq i 2 || Nat.beq i 5 then 3 else bif Nat.beq i 3 then 5 else 6
def startF (i : Nat) : Int :=
  bif Nat.blt i 128 then
    (bif Nat.blt i 16 then (bif Nat.beq (i % 2) 0 then backK (i / 2) else 0)
    else bif Nat.blt i 32 then (bif Nat.beq (i % 2) 0 then 1 else 0)
    else bif Nat.blt i 96 then 0
    else bif Nat.blt i 112 then 1
    else (bif Nat.beq (i % 2) 0 then backK ((i - 112) / 2) else 1))
  else bif Nat.beq i 129 then 15 else bif Nat.beq i 130 then -1 else bif Nat.beq i 132 then 1 else 0
def emptyF (i : Nat) : Int := bif Nat.beq i 130 then -1 else bif Nat.beq i 132 then 1 else 0
theorem blt_no {i m : Nat} (h : m ≤ i) : Nat.blt i m = false := Bool.eq_false_iff.2 fun e => by have : i + 1 ≤ m := Nat.le_of_ble_eq_true e; omega
theorem beq_no {i m : Nat} (h : i ≠ m) : Nat.beq i m = false := Bool.eq_false_iff.2 fun e => h (Nat.eq_of_beq_eq_true e)
theorem startF_hi (i : Nat) (h : 133 ≤ i) : startF i = 0 := by
  unfold startF
  rw [blt_no (show 128 ≤ i by omega), cond_false, beq_no (show i ≠ 129 by omega), beq_no (show i ≠ 130 by omega), beq_no (show i ≠ 132 by omega)]
  rfl
theorem emptyF_hi (i : Nat) (h : 133 ≤ i) : emptyF i = 0 := by
  unfold emptyF
  rw [beq_no (by omega), beq_no (by omega)]
  rfl
theorem ovA_is {P Q R : Nat → Int} {m : Nat} (h : ∀ i, i < m → Q i = R i) (h2 : ∀ i, m ≤ i → P i = R i) : ovA P 0 m Q = R := by
  funext i
  by_cases hi : i < m
  · rw [ovA_at (by omega)]; exact h i hi
  · rw [ovA_out (by omega)]; exact h2 i (by omega)

/-- The text of the begin. -/
abbrev beginS : ByteArray := ⟨#[114, 110, 98, 113, 107, 98, 110, 114, 47, 112, 112, 112, 112, 112, 112, 112, 112, 47, 56, 47, 56, 47, 56, 47, 56, 47, 80, 80, 80, 80, 80, 80, 80, 80, 47, 82, 78, 66, 81, 75, 66, 78, 82, 32, 119, 32, 75, 81, 107, 113, 32, 45, 32, 48, 32, 49]⟩
def parse_begin : Bool := eqI 133 (parseR beginS).1 startF && decide ((parseR beginS).2.1 = 0) && decide ((parseR beginS).2.2 = 0)
theorem parse_begin_is : parse_begin = true := by decide +kernel
theorem show_begin : (showR startF).1.data.toList = beginS.data.toList ∧ (showR startF).2 = 0 := by decide +kernel

end Go.Proofs.YtlaogmemhephnaaDoor
/- The position at the begin, as the document makes it. -/
namespace Go.Proofs.YtlaogmemhephnaaDoor
open Go Go.Am
set_option linter.unusedSimpArgs false
set_option linter.unusedVariables false
set_option maxRecDepth 100000
theorem rEmpty_run  : WR AM 37 [] [] (fun v _ _ => v = .agg 133 (ia emptyF)) := by
 refine WR_fn (a := a37) rfl rfl (entryF _) (entry_E (Nat.le_of_ble_eq_true rfl)) (m := 0) rfl ?_
 refine WP_seq ?_
 refine WP_ops ?_
 refine WO_allocI ?_
 refine WO_nil ?_
 refine WP_seq ?_
 refine WP_ops ?_
 refine WO_buildI rfl (.one rfl (.one rfl .nil)) ?_
 refine WO_stA rfl rfl rfl rfl .here ?_
 refine WO_nil ?_
 refine WP_ret ?_
 refine ⟨_, RS_cell rfl rfl (.head _) (RS_nil), ?_⟩
 refine congrArg (fun P => V.agg 133 (ia P)) ?_
 refine ovA_is (by decide +kernel) fun i hi => (emptyF_hi i hi).symm
theorem rStart_run  : WR AM 19 [] [] (fun v _ _ => v = .agg 133 (ia startF)) := by
 refine WR_fn (a := a19) rfl rfl (entryF _) (entry_E (Nat.le_of_ble_eq_true rfl)) (m := 0) rfl ?_
 refine WP_seq ?_
 refine WP_ops ?_
 refine WO_allocI ?_
 refine WO_nil ?_
 refine WP_seq ?_
 refine WP_ops ?_
 refine WO_call0 rfl (RF_of rEmpty_run) rfl rfl rfl ?_
 refine WO_allocI ?_
 refine WO_stA rfl rfl rfl rfl .here ?_
 refine WO_nil ?_
 refine WP_seq ?_
 refine WP_ops ?_
 refine WO_mkslS rfl (.one rfl (.one rfl (.one rfl (.one rfl (.one rfl (.one rfl (.one rfl (.one rfl .nil)))))))) ?_
 refine WO_mv (v := .sl _ _ _ _ _) rfl ?_
 refine WO_nil ?_
 refine WP_seq ?_
 refine WP_seq ?_
 refine WP_ops ?_
 refine WO_mv rfl ?_
 refine WO_nil ?_
 refine WP_block ?_
 refine WP_unroll ?_
 refine WP_seq ?_
 refine WP_seq ?_
 refine WP_ops ?_
 refine WO_mv (v := .s (.int _ _)) rfl ?_
 refine WO_bin (r := .bool _) rfl rfl rfl ?_
 refine WO_nil ?_
 refine WP_cond rfl (fun h1 => ?_) (fun h1 => ?_)
 ·try simp only [NM] at h1
  refine WP_skip ?_
  refine WP_seq ?_
  refine WP_block ?_
  refine WP_seq ?_
  refine WP_ops ?_
  refine WO_mv (v := .s (.int _ _)) rfl ?_
  refine WO_mv (v := .sl _ _ _ _ _) rfl ?_
  refine WO_mv (v := .s (.int _ _)) rfl ?_
  refine WO_ixs rfl rfl (by omega) ?_
  refine WO_ldI (x := _) rfl rfl (.head _) (rfl) ?_
  refine WO_buildI rfl (.one rfl (.one rfl .nil)) ?_
  refine WO_fa (o' := 0) rfl rfl rfl ?_
  refine WO_ixa rfl rfl rfl (by omega) ?_
  refine WO_stA rfl rfl rfl rfl (.there .here) ?_
  refine WO_nil ?_
  refine WP_seq ?_
  refine WP_ops ?_
  refine WO_mv (v := .s (.int _ _)) rfl ?_
  refine WO_add rfl rfl (by omega) ?_
  refine WO_buildI rfl (.one rfl (.one rfl .nil)) ?_
  refine WO_fa (o' := 0) rfl rfl rfl ?_
  refine WO_ixa rfl rfl rfl (by omega) ?_
  refine WO_stA rfl rfl rfl rfl (.there .here) ?_
  refine WO_nil ?_
  refine WP_seq ?_
  refine WP_ops ?_
  refine WO_mv (v := .s (.int _ _)) rfl ?_
  refine WO_add rfl rfl (by omega) ?_
  refine WO_buildI rfl (.one rfl (.one rfl .nil)) ?_
  refine WO_fa (o' := 0) rfl rfl rfl ?_
  refine WO_ixa rfl rfl rfl (by omega) ?_
  refine WO_stA rfl rfl rfl rfl (.there .here) ?_
  refine WO_nil ?_
  refine WP_ops ?_
  refine WO_mv (v := .s (.int _ _)) rfl ?_
  refine WO_add rfl rfl (by omega) ?_
  refine WO_mv (v := .sl _ _ _ _ _) rfl ?_
  refine WO_mv (v := .s (.int _ _)) rfl ?_
  refine WO_ixs rfl rfl (by omega) ?_
  refine WO_ldI (x := _) rfl rfl (.head _) (rfl) ?_
  refine WO_buildI rfl (.one rfl (.one rfl .nil)) ?_
  refine WO_fa (o' := 0) rfl rfl rfl ?_
  refine WO_ixa rfl rfl rfl (by omega) ?_
  refine WO_stA rfl rfl rfl rfl (.there .here) ?_
  refine WO_nil ?_
  refine WP_ops ?_
  refine WO_mv (v := .s (.int _ _)) rfl ?_
  refine WO_add rfl rfl (by omega) ?_
  refine WO_mv (v := .s (.int _ _)) rfl ?_
  refine WO_nil ?_
  refine WP_unroll ?_
  refine WP_seq ?_
  refine WP_seq ?_
  refine WP_ops ?_
  refine WO_mv (v := .s (.int _ _)) rfl ?_
  refine WO_bin (r := .bool _) rfl rfl rfl ?_
  refine WO_nil ?_
  refine WP_cond rfl (fun h2 => ?_) (fun h2 => ?_)
  ·try simp only [NM] at h2
   refine WP_skip ?_
   refine WP_seq ?_
   refine WP_block ?_
   refine WP_seq ?_
   refine WP_ops ?_
   refine WO_mv (v := .s (.int _ _)) rfl ?_
   refine WO_mv (v := .sl _ _ _ _ _) rfl ?_
   refine WO_mv (v := .s (.int _ _)) rfl ?_
   refine WO_ixs rfl rfl (by omega) ?_
   refine WO_ldI (x := _) rfl rfl (.head _) (rfl) ?_
   refine WO_buildI rfl (.one rfl (.one rfl .nil)) ?_
   refine WO_fa (o' := 0) rfl rfl rfl ?_
   refine WO_ixa rfl rfl rfl (by omega) ?_
   refine WO_stA rfl rfl rfl rfl (.there .here) ?_
   refine WO_nil ?_
   refine WP_seq ?_
   refine WP_ops ?_
   refine WO_mv (v := .s (.int _ _)) rfl ?_
   refine WO_add rfl rfl (by omega) ?_
   refine WO_buildI rfl (.one rfl (.one rfl .nil)) ?_
   refine WO_fa (o' := 0) rfl rfl rfl ?_
   refine WO_ixa rfl rfl rfl (by omega) ?_
   refine WO_stA rfl rfl rfl rfl (.there .here) ?_
   refine WO_nil ?_
   refine WP_seq ?_
   refine WP_ops ?_
   refine WO_mv (v := .s (.int _ _)) rfl ?_
   refine WO_add rfl rfl (by omega) ?_
   refine WO_buildI rfl (.one rfl (.one rfl .nil)) ?_
   refine WO_fa (o' := 0) rfl rfl rfl ?_
   refine WO_ixa rfl rfl rfl (by omega) ?_
   refine WO_stA rfl rfl rfl rfl (.there .here) ?_
   refine WO_nil ?_
   refine WP_ops ?_
   refine WO_mv (v := .s (.int _ _)) rfl ?_
   refine WO_add rfl rfl (by omega) ?_
   refine WO_mv (v := .sl _ _ _ _ _) rfl ?_
   refine WO_mv (v := .s (.int _ _)) rfl ?_
   refine WO_ixs rfl rfl (by omega) ?_
   refine WO_ldI (x := _) rfl rfl (.head _) (rfl) ?_
   refine WO_buildI rfl (.one rfl (.one rfl .nil)) ?_
   refine WO_fa (o' := 0) rfl rfl rfl ?_
   refine WO_ixa rfl rfl rfl (by omega) ?_
   refine WO_stA rfl rfl rfl rfl (.there .here) ?_
   refine WO_nil ?_
   refine WP_ops ?_
   refine WO_mv (v := .s (.int _ _)) rfl ?_
   refine WO_add rfl rfl (by omega) ?_
   refine WO_mv (v := .s (.int _ _)) rfl ?_
   refine WO_nil ?_
   refine WP_unroll ?_
   refine WP_seq ?_
   refine WP_seq ?_
   refine WP_ops ?_
   refine WO_mv (v := .s (.int _ _)) rfl ?_
   refine WO_bin (r := .bool _) rfl rfl rfl ?_
   refine WO_nil ?_
   refine WP_cond rfl (fun h3 => ?_) (fun h3 => ?_)
   ·try simp only [NM] at h3
    refine WP_skip ?_
    refine WP_seq ?_
    refine WP_block ?_
    refine WP_seq ?_
    refine WP_ops ?_
    refine WO_mv (v := .s (.int _ _)) rfl ?_
    refine WO_mv (v := .sl _ _ _ _ _) rfl ?_
    refine WO_mv (v := .s (.int _ _)) rfl ?_
    refine WO_ixs rfl rfl (by omega) ?_
    refine WO_ldI (x := _) rfl rfl (.head _) (rfl) ?_
    refine WO_buildI rfl (.one rfl (.one rfl .nil)) ?_
    refine WO_fa (o' := 0) rfl rfl rfl ?_
    refine WO_ixa rfl rfl rfl (by omega) ?_
    refine WO_stA rfl rfl rfl rfl (.there .here) ?_
    refine WO_nil ?_
    refine WP_seq ?_
    refine WP_ops ?_
    refine WO_mv (v := .s (.int _ _)) rfl ?_
    refine WO_add rfl rfl (by omega) ?_
    refine WO_buildI rfl (.one rfl (.one rfl .nil)) ?_
    refine WO_fa (o' := 0) rfl rfl rfl ?_
    refine WO_ixa rfl rfl rfl (by omega) ?_
    refine WO_stA rfl rfl rfl rfl (.there .here) ?_
    refine WO_nil ?_
    refine WP_seq ?_
    refine WP_ops ?_
    refine WO_mv (v := .s (.int _ _)) rfl ?_
    refine WO_add rfl rfl (by omega) ?_
    refine WO_buildI rfl (.one rfl (.one rfl .nil)) ?_
    refine WO_fa (o' := 0) rfl rfl rfl ?_
    refine WO_ixa rfl rfl rfl (by omega) ?_
    refine WO_stA rfl rfl rfl rfl (.there .here) ?_
    refine WO_nil ?_
    refine WP_ops ?_
    refine WO_mv (v := .s (.int _ _)) rfl ?_
    refine WO_add rfl rfl (by omega) ?_
    refine WO_mv (v := .sl _ _ _ _ _) rfl ?_
    refine WO_mv (v := .s (.int _ _)) rfl ?_
    refine WO_ixs rfl rfl (by omega) ?_
    refine WO_ldI (x := _) rfl rfl (.head _) (rfl) ?_
    refine WO_buildI rfl (.one rfl (.one rfl .nil)) ?_
    refine WO_fa (o' := 0) rfl rfl rfl ?_
    refine WO_ixa rfl rfl rfl (by omega) ?_
    refine WO_stA rfl rfl rfl rfl (.there .here) ?_
    refine WO_nil ?_
    refine WP_ops ?_
    refine WO_mv (v := .s (.int _ _)) rfl ?_
    refine WO_add rfl rfl (by omega) ?_
    refine WO_mv (v := .s (.int _ _)) rfl ?_
    refine WO_nil ?_
    refine WP_unroll ?_
    refine WP_seq ?_
    refine WP_seq ?_
    refine WP_ops ?_
    refine WO_mv (v := .s (.int _ _)) rfl ?_
    refine WO_bin (r := .bool _) rfl rfl rfl ?_
    refine WO_nil ?_
    refine WP_cond rfl (fun h4 => ?_) (fun h4 => ?_)
    ·try simp only [NM] at h4
     refine WP_skip ?_
     refine WP_seq ?_
     refine WP_block ?_
     refine WP_seq ?_
     refine WP_ops ?_
     refine WO_mv (v := .s (.int _ _)) rfl ?_
     refine WO_mv (v := .sl _ _ _ _ _) rfl ?_
     refine WO_mv (v := .s (.int _ _)) rfl ?_
     refine WO_ixs rfl rfl (by omega) ?_
     refine WO_ldI (x := _) rfl rfl (.head _) (rfl) ?_
     refine WO_buildI rfl (.one rfl (.one rfl .nil)) ?_
     refine WO_fa (o' := 0) rfl rfl rfl ?_
     refine WO_ixa rfl rfl rfl (by omega) ?_
     refine WO_stA rfl rfl rfl rfl (.there .here) ?_
     refine WO_nil ?_
     refine WP_seq ?_
     refine WP_ops ?_
     refine WO_mv (v := .s (.int _ _)) rfl ?_
     refine WO_add rfl rfl (by omega) ?_
     refine WO_buildI rfl (.one rfl (.one rfl .nil)) ?_
     refine WO_fa (o' := 0) rfl rfl rfl ?_
     refine WO_ixa rfl rfl rfl (by omega) ?_
     refine WO_stA rfl rfl rfl rfl (.there .here) ?_
     refine WO_nil ?_
     refine WP_seq ?_
     refine WP_ops ?_
     refine WO_mv (v := .s (.int _ _)) rfl ?_
     refine WO_add rfl rfl (by omega) ?_
     refine WO_buildI rfl (.one rfl (.one rfl .nil)) ?_
     refine WO_fa (o' := 0) rfl rfl rfl ?_
     refine WO_ixa rfl rfl rfl (by omega) ?_
     refine WO_stA rfl rfl rfl rfl (.there .here) ?_
     refine WO_nil ?_
     refine WP_ops ?_
     refine WO_mv (v := .s (.int _ _)) rfl ?_
     refine WO_add rfl rfl (by omega) ?_
     refine WO_mv (v := .sl _ _ _ _ _) rfl ?_
     refine WO_mv (v := .s (.int _ _)) rfl ?_
     refine WO_ixs rfl rfl (by omega) ?_
     refine WO_ldI (x := _) rfl rfl (.head _) (rfl) ?_
     refine WO_buildI rfl (.one rfl (.one rfl .nil)) ?_
     refine WO_fa (o' := 0) rfl rfl rfl ?_
     refine WO_ixa rfl rfl rfl (by omega) ?_
     refine WO_stA rfl rfl rfl rfl (.there .here) ?_
     refine WO_nil ?_
     refine WP_ops ?_
     refine WO_mv (v := .s (.int _ _)) rfl ?_
     refine WO_add rfl rfl (by omega) ?_
     refine WO_mv (v := .s (.int _ _)) rfl ?_
     refine WO_nil ?_
     refine WP_unroll ?_
     refine WP_seq ?_
     refine WP_seq ?_
     refine WP_ops ?_
     refine WO_mv (v := .s (.int _ _)) rfl ?_
     refine WO_bin (r := .bool _) rfl rfl rfl ?_
     refine WO_nil ?_
     refine WP_cond rfl (fun h5 => ?_) (fun h5 => ?_)
     ·try simp only [NM] at h5
      refine WP_skip ?_
      refine WP_seq ?_
      refine WP_block ?_
      refine WP_seq ?_
      refine WP_ops ?_
      refine WO_mv (v := .s (.int _ _)) rfl ?_
      refine WO_mv (v := .sl _ _ _ _ _) rfl ?_
      refine WO_mv (v := .s (.int _ _)) rfl ?_
      refine WO_ixs rfl rfl (by omega) ?_
      refine WO_ldI (x := _) rfl rfl (.head _) (rfl) ?_
      refine WO_buildI rfl (.one rfl (.one rfl .nil)) ?_
      refine WO_fa (o' := 0) rfl rfl rfl ?_
      refine WO_ixa rfl rfl rfl (by omega) ?_
      refine WO_stA rfl rfl rfl rfl (.there .here) ?_
      refine WO_nil ?_
      refine WP_seq ?_
      refine WP_ops ?_
      refine WO_mv (v := .s (.int _ _)) rfl ?_
      refine WO_add rfl rfl (by omega) ?_
      refine WO_buildI rfl (.one rfl (.one rfl .nil)) ?_
      refine WO_fa (o' := 0) rfl rfl rfl ?_
      refine WO_ixa rfl rfl rfl (by omega) ?_
      refine WO_stA rfl rfl rfl rfl (.there .here) ?_
      refine WO_nil ?_
      refine WP_seq ?_
      refine WP_ops ?_
      refine WO_mv (v := .s (.int _ _)) rfl ?_
      refine WO_add rfl rfl (by omega) ?_
      refine WO_buildI rfl (.one rfl (.one rfl .nil)) ?_
      refine WO_fa (o' := 0) rfl rfl rfl ?_
      refine WO_ixa rfl rfl rfl (by omega) ?_
      refine WO_stA rfl rfl rfl rfl (.there .here) ?_
      refine WO_nil ?_
      refine WP_ops ?_
      refine WO_mv (v := .s (.int _ _)) rfl ?_
      refine WO_add rfl rfl (by omega) ?_
      refine WO_mv (v := .sl _ _ _ _ _) rfl ?_
      refine WO_mv (v := .s (.int _ _)) rfl ?_
      refine WO_ixs rfl rfl (by omega) ?_
      refine WO_ldI (x := _) rfl rfl (.head _) (rfl) ?_
      refine WO_buildI rfl (.one rfl (.one rfl .nil)) ?_
      refine WO_fa (o' := 0) rfl rfl rfl ?_
      refine WO_ixa rfl rfl rfl (by omega) ?_
      refine WO_stA rfl rfl rfl rfl (.there .here) ?_
      refine WO_nil ?_
      refine WP_ops ?_
      refine WO_mv (v := .s (.int _ _)) rfl ?_
      refine WO_add rfl rfl (by omega) ?_
      refine WO_mv (v := .s (.int _ _)) rfl ?_
      refine WO_nil ?_
      refine WP_unroll ?_
      refine WP_seq ?_
      refine WP_seq ?_
      refine WP_ops ?_
      refine WO_mv (v := .s (.int _ _)) rfl ?_
      refine WO_bin (r := .bool _) rfl rfl rfl ?_
      refine WO_nil ?_
      refine WP_cond rfl (fun h6 => ?_) (fun h6 => ?_)
      ·try simp only [NM] at h6
       refine WP_skip ?_
       refine WP_seq ?_
       refine WP_block ?_
       refine WP_seq ?_
       refine WP_ops ?_
       refine WO_mv (v := .s (.int _ _)) rfl ?_
       refine WO_mv (v := .sl _ _ _ _ _) rfl ?_
       refine WO_mv (v := .s (.int _ _)) rfl ?_
       refine WO_ixs rfl rfl (by omega) ?_
       refine WO_ldI (x := _) rfl rfl (.head _) (rfl) ?_
       refine WO_buildI rfl (.one rfl (.one rfl .nil)) ?_
       refine WO_fa (o' := 0) rfl rfl rfl ?_
       refine WO_ixa rfl rfl rfl (by omega) ?_
       refine WO_stA rfl rfl rfl rfl (.there .here) ?_
       refine WO_nil ?_
       refine WP_seq ?_
       refine WP_ops ?_
       refine WO_mv (v := .s (.int _ _)) rfl ?_
       refine WO_add rfl rfl (by omega) ?_
       refine WO_buildI rfl (.one rfl (.one rfl .nil)) ?_
       refine WO_fa (o' := 0) rfl rfl rfl ?_
       refine WO_ixa rfl rfl rfl (by omega) ?_
       refine WO_stA rfl rfl rfl rfl (.there .here) ?_
       refine WO_nil ?_
       refine WP_seq ?_
       refine WP_ops ?_
       refine WO_mv (v := .s (.int _ _)) rfl ?_
       refine WO_add rfl rfl (by omega) ?_
       refine WO_buildI rfl (.one rfl (.one rfl .nil)) ?_
       refine WO_fa (o' := 0) rfl rfl rfl ?_
       refine WO_ixa rfl rfl rfl (by omega) ?_
       refine WO_stA rfl rfl rfl rfl (.there .here) ?_
       refine WO_nil ?_
       refine WP_ops ?_
       refine WO_mv (v := .s (.int _ _)) rfl ?_
       refine WO_add rfl rfl (by omega) ?_
       refine WO_mv (v := .sl _ _ _ _ _) rfl ?_
       refine WO_mv (v := .s (.int _ _)) rfl ?_
       refine WO_ixs rfl rfl (by omega) ?_
       refine WO_ldI (x := _) rfl rfl (.head _) (rfl) ?_
       refine WO_buildI rfl (.one rfl (.one rfl .nil)) ?_
       refine WO_fa (o' := 0) rfl rfl rfl ?_
       refine WO_ixa rfl rfl rfl (by omega) ?_
       refine WO_stA rfl rfl rfl rfl (.there .here) ?_
       refine WO_nil ?_
       refine WP_ops ?_
       refine WO_mv (v := .s (.int _ _)) rfl ?_
       refine WO_add rfl rfl (by omega) ?_
       refine WO_mv (v := .s (.int _ _)) rfl ?_
       refine WO_nil ?_
       refine WP_unroll ?_
       refine WP_seq ?_
       refine WP_seq ?_
       refine WP_ops ?_
       refine WO_mv (v := .s (.int _ _)) rfl ?_
       refine WO_bin (r := .bool _) rfl rfl rfl ?_
       refine WO_nil ?_
       refine WP_cond rfl (fun h7 => ?_) (fun h7 => ?_)
       ·try simp only [NM] at h7
        refine WP_skip ?_
        refine WP_seq ?_
        refine WP_block ?_
        refine WP_seq ?_
        refine WP_ops ?_
        refine WO_mv (v := .s (.int _ _)) rfl ?_
        refine WO_mv (v := .sl _ _ _ _ _) rfl ?_
        refine WO_mv (v := .s (.int _ _)) rfl ?_
        refine WO_ixs rfl rfl (by omega) ?_
        refine WO_ldI (x := _) rfl rfl (.head _) (rfl) ?_
        refine WO_buildI rfl (.one rfl (.one rfl .nil)) ?_
        refine WO_fa (o' := 0) rfl rfl rfl ?_
        refine WO_ixa rfl rfl rfl (by omega) ?_
        refine WO_stA rfl rfl rfl rfl (.there .here) ?_
        refine WO_nil ?_
        refine WP_seq ?_
        refine WP_ops ?_
        refine WO_mv (v := .s (.int _ _)) rfl ?_
        refine WO_add rfl rfl (by omega) ?_
        refine WO_buildI rfl (.one rfl (.one rfl .nil)) ?_
        refine WO_fa (o' := 0) rfl rfl rfl ?_
        refine WO_ixa rfl rfl rfl (by omega) ?_
        refine WO_stA rfl rfl rfl rfl (.there .here) ?_
        refine WO_nil ?_
        refine WP_seq ?_
        refine WP_ops ?_
        refine WO_mv (v := .s (.int _ _)) rfl ?_
        refine WO_add rfl rfl (by omega) ?_
        refine WO_buildI rfl (.one rfl (.one rfl .nil)) ?_
        refine WO_fa (o' := 0) rfl rfl rfl ?_
        refine WO_ixa rfl rfl rfl (by omega) ?_
        refine WO_stA rfl rfl rfl rfl (.there .here) ?_
        refine WO_nil ?_
        refine WP_ops ?_
        refine WO_mv (v := .s (.int _ _)) rfl ?_
        refine WO_add rfl rfl (by omega) ?_
        refine WO_mv (v := .sl _ _ _ _ _) rfl ?_
        refine WO_mv (v := .s (.int _ _)) rfl ?_
        refine WO_ixs rfl rfl (by omega) ?_
        refine WO_ldI (x := _) rfl rfl (.head _) (rfl) ?_
        refine WO_buildI rfl (.one rfl (.one rfl .nil)) ?_
        refine WO_fa (o' := 0) rfl rfl rfl ?_
        refine WO_ixa rfl rfl rfl (by omega) ?_
        refine WO_stA rfl rfl rfl rfl (.there .here) ?_
        refine WO_nil ?_
        refine WP_ops ?_
        refine WO_mv (v := .s (.int _ _)) rfl ?_
        refine WO_add rfl rfl (by omega) ?_
        refine WO_mv (v := .s (.int _ _)) rfl ?_
        refine WO_nil ?_
        refine WP_unroll ?_
        refine WP_seq ?_
        refine WP_seq ?_
        refine WP_ops ?_
        refine WO_mv (v := .s (.int _ _)) rfl ?_
        refine WO_bin (r := .bool _) rfl rfl rfl ?_
        refine WO_nil ?_
        refine WP_cond rfl (fun h8 => ?_) (fun h8 => ?_)
        ·try simp only [NM] at h8
         refine WP_skip ?_
         refine WP_seq ?_
         refine WP_block ?_
         refine WP_seq ?_
         refine WP_ops ?_
         refine WO_mv (v := .s (.int _ _)) rfl ?_
         refine WO_mv (v := .sl _ _ _ _ _) rfl ?_
         refine WO_mv (v := .s (.int _ _)) rfl ?_
         refine WO_ixs rfl rfl (by omega) ?_
         refine WO_ldI (x := _) rfl rfl (.head _) (rfl) ?_
         refine WO_buildI rfl (.one rfl (.one rfl .nil)) ?_
         refine WO_fa (o' := 0) rfl rfl rfl ?_
         refine WO_ixa rfl rfl rfl (by omega) ?_
         refine WO_stA rfl rfl rfl rfl (.there .here) ?_
         refine WO_nil ?_
         refine WP_seq ?_
         refine WP_ops ?_
         refine WO_mv (v := .s (.int _ _)) rfl ?_
         refine WO_add rfl rfl (by omega) ?_
         refine WO_buildI rfl (.one rfl (.one rfl .nil)) ?_
         refine WO_fa (o' := 0) rfl rfl rfl ?_
         refine WO_ixa rfl rfl rfl (by omega) ?_
         refine WO_stA rfl rfl rfl rfl (.there .here) ?_
         refine WO_nil ?_
         refine WP_seq ?_
         refine WP_ops ?_
         refine WO_mv (v := .s (.int _ _)) rfl ?_
         refine WO_add rfl rfl (by omega) ?_
         refine WO_buildI rfl (.one rfl (.one rfl .nil)) ?_
         refine WO_fa (o' := 0) rfl rfl rfl ?_
         refine WO_ixa rfl rfl rfl (by omega) ?_
         refine WO_stA rfl rfl rfl rfl (.there .here) ?_
         refine WO_nil ?_
         refine WP_ops ?_
         refine WO_mv (v := .s (.int _ _)) rfl ?_
         refine WO_add rfl rfl (by omega) ?_
         refine WO_mv (v := .sl _ _ _ _ _) rfl ?_
         refine WO_mv (v := .s (.int _ _)) rfl ?_
         refine WO_ixs rfl rfl (by omega) ?_
         refine WO_ldI (x := _) rfl rfl (.head _) (rfl) ?_
         refine WO_buildI rfl (.one rfl (.one rfl .nil)) ?_
         refine WO_fa (o' := 0) rfl rfl rfl ?_
         refine WO_ixa rfl rfl rfl (by omega) ?_
         refine WO_stA rfl rfl rfl rfl (.there .here) ?_
         refine WO_nil ?_
         refine WP_ops ?_
         refine WO_mv (v := .s (.int _ _)) rfl ?_
         refine WO_add rfl rfl (by omega) ?_
         refine WO_mv (v := .s (.int _ _)) rfl ?_
         refine WO_nil ?_
         refine WP_unroll ?_
         refine WP_seq ?_
         refine WP_seq ?_
         refine WP_ops ?_
         refine WO_mv (v := .s (.int _ _)) rfl ?_
         refine WO_bin (r := .bool _) rfl rfl rfl ?_
         refine WO_nil ?_
         refine WP_cond rfl (fun h9 => ?_) (fun h9 => ?_)
         ·try simp only [NM] at h9
          exfalso; first | omega | (simp at h9)
         ·try simp only [NM] at h9
          refine WP_exit ?_
          refine xhere ?_
          refine WP_seq ?_
          refine WP_ops ?_
          refine WO_fa (o' := 129) rfl rfl rfl ?_
          refine WO_stI rfl rfl rfl rfl (.there .here) ?_
          refine WO_nil ?_
          refine WP_seq ?_
          refine WP_ops ?_
          first | refine WO_ldA0 rfl rfl (.tail _ (.head _)) ?_ | refine WO_ldAI rfl rfl (.tail _ (.head _)) ?_
          refine WO_stA rfl rfl rfl rfl (.there (.there .here)) ?_
          refine WO_nil ?_
          refine WP_ret ?_
          refine ⟨_, RS_cell rfl rfl (.tail _ (.tail _ (.head _))) (RS_nil), ?_⟩
          refine congrArg (fun P => V.agg 133 (ia P)) ?_
          refine ovA_is (by decide +kernel) fun i hi => (startF_hi i hi).symm
        ·try simp only [NM] at h8
         exfalso; first | omega | (simp at h8)
       ·try simp only [NM] at h7
        exfalso; first | omega | (simp at h7)
      ·try simp only [NM] at h6
       exfalso; first | omega | (simp at h6)
     ·try simp only [NM] at h5
      exfalso; first | omega | (simp at h5)
    ·try simp only [NM] at h4
     exfalso; first | omega | (simp at h4)
   ·try simp only [NM] at h3
    exfalso; first | omega | (simp at h3)
  ·try simp only [NM] at h2
   exfalso; first | omega | (simp at h2)
 ·try simp only [NM] at h1
  exfalso; first | omega | (simp at h1)
theorem start_run : RF AM2 19 [] (.agg 133 (ia startF)) := RF2 (RF_of rStart_run)
end Go.Proofs.YtlaogmemhephnaaDoor
/- The chapter's example; any positions shown: the walks. -/
set_option linter.unusedVariables false
set_option linter.unusedSimpArgs false
namespace Go.Proofs.YtlaogmemhephnaaDoor
open Go Go.Am

theorem begin_run : RF AM2 20 [] (.s (.str beginS)) := by
  refine RF2 (RF_of ?_)
  refine WR_fn (a := a20) rfl rfl (entryF _) (entry_E (Nat.le_of_ble_eq_true rfl)) (m := 0) rfl ?_
  refine WP_seq (WP_ops (WO_mv rfl (WO_nil ?_)))
  refine WP_seq (WP_ops (WO_mv rfl (WO_nil ?_)))
  exact WP_ret ⟨_, RS_tmp rfl RS_nil, rfl⟩

theorem showR_begin : showR startF = (beginS, 0) := by
  have h := show_begin
  have e : (showR startF).1 = beginS := str_inj (by rw [toList_is, toList_is]; exact h.1)
  exact Prod.ext e h.2

theorem parse_begin_all : eqI 133 (parseR beginS).1 startF = true ∧ (parseR beginS).2 = (0, 0) := by
  have h := parse_begin_is
  unfold parse_begin at h
  simp only [Bool.and_eq_true, decide_eq_true_eq] at h
  exact ⟨h.1.1, Prod.ext h.1.2 h.2⟩

set_option maxRecDepth 100000 in
theorem awake_run : RF AM2 8 [] (.s (.bool true)) := by
  refine RF_of ?_
  refine WR_fn (a := a8) rfl rfl (entryF _) (entry_E (Nat.le_of_ble_eq_true rfl)) (m := 0) rfl ?_
  refine WP_seq (WP_ops (WO_mv rfl (WO_nil ?_)))
  refine WP_seq (WP_ops ?_)
  refine WO_call0 rfl start_run rfl rfl rfl ?_
  refine WO_call0 rfl (show_run startF) rfl rfl rfl ?_
  rw [showR_begin]
  refine WO_mv (v := .tup _) rfl (WO_ext rfl rfl (WO_ext rfl rfl (WO_mv rfl (WO_mv rfl (WO_nil ?_)))))
  refine WP_seq (WP_ops ?_)
  refine WO_mv rfl (WO_call0 rfl (parse_run beginS) rfl rfl rfl ?_)
  obtain ⟨h1, h2⟩ := parse_begin_all
  have hv : parseV beginS = .tup [.agg 133 (ia (parseR beginS).1), .s (.int .i64 0), .s (.int .i64 0)] := by
    show tup3 (parseR beginS) = _
    unfold tup3
    rw [h2]
  rw [hv]
  generalize (parseR beginS).1 = P at h1
  refine WO_mv (v := .tup _) rfl (WO_ext rfl rfl (WO_ext rfl rfl (WO_ext rfl rfl ?_)))
  refine WO_allocI (WO_stA rfl rfl rfl rfl .here ?_)
  refine WO_mv rfl (WO_mv rfl (WO_nil ?_))
  refine WP_seq (WP_par ?_)
  refine WO_mv rfl (WO_bin (r := .bool true) rfl rfl rfl (WO_mv rfl ?_))
  refine WO_gt rfl (WO_mv rfl ?_)
  refine WO_gt rfl (WO_call0 rfl begin_run rfl rfl rfl ?_)
  refine WO_gt rfl (WO_bin (r := .bool true) rfl rfl (by show some (S.bool (_ == _)) = _; rw [beq_self_eq_true]) ?_)
  refine WO_pick rfl rfl (WO_mv rfl ?_)
  refine WO_gt rfl (WO_mv rfl ?_)
  refine WO_gt rfl (WO_bin (r := .bool true) rfl rfl rfl ?_)
  refine WO_pick rfl rfl (WO_mv rfl ?_)
  refine WO_gt rfl (WO_ldA0 rfl rfl (.head _) ?_)
  refine WO_gt rfl (WO_callq0 rfl start_run rfl rfl rfl ?_)
  refine WO_gt rfl (WO_eqaC rfl rfl (b := true) ?_ ?_)
  · show eqI 133 (ovA (fun _ => 0) 0 133 P) startF = true
    rw [eqI_iff] at h1 ⊢
    intro i hi
    rw [ovA_at (by omega)]
    exact h1 i hi
  refine WO_pick rfl rfl (WO_mv rfl (WO_nil ?_))
  exact WP_ret ⟨_, RS_tmp rfl RS_nil, rfl⟩

end Go.Proofs.YtlaogmemhephnaaDoor
/- What the laws of texts ask: plain facts. -/
set_option linter.unusedVariables false
set_option linter.unusedSimpArgs false
namespace Go.Proofs.YtlaogmemhephnaaDoor
open Go Go.Am

/-! ### Lengths -/

theorem rk_size8 (P : Nat → Int) (r : Nat) : ∀ f, f ≤ 8 → (rk P r f).1.size + (if (rk P r f).2 = 0 then 0 else 1) ≤ f
  | 0, _ => Nat.le_refl _
  | f + 1, h => by
    have ih := rk_size8 P r f (by omega)
    unfold rk
    split
    · show (rk P r f).1.size + (if (rk P r f).2 + 1 = 0 then 0 else 1) ≤ f + 1
      rw [if_neg (by omega)]
      split at ih <;> omega
    · show (flushS (rk P r f) ++ letS _ _).size + (if (0 : Nat) = 0 then 0 else 1) ≤ f + 1
      rw [if_pos rfl, ByteArray.size_append]
      have e : ∀ a b, (letS a b).size = 1 := fun _ _ => rfl
      rw [e]
      have hle := rk_le P r f
      unfold flushS
      split
      · rename_i h0
        rw [if_pos h0] at ih; omega
      · rename_i h0
        rw [if_neg h0] at ih
        rw [ByteArray.size_append, itoaS_size (by omega)]; omega
theorem rank_size8 (P : Nat → Int) (r : Nat) : (rankS P r).size ≤ 8 := by
  have h := rk_size8 P r 8 (Nat.le_refl 8)
  have hle := rk_le P r 8
  unfold rankS flushS
  split
  · rename_i h0
    rw [if_pos h0] at h; omega
  · rename_i h0
    rw [if_neg h0] at h
    rw [ByteArray.size_append, itoaS_size (by omega)]; omega

theorem show_le {P : Nat → Int} (h : Rt P) : (showS P).size ≤ 128 := by
  have h4 := itoa_size h.half.1 (by have := h.half.2; omega)
  have h5 := itoa_size (n := P 132) (by have := h.full.1; omega) (by have := h.full.2; omega)
  have h0 : (catF (rowF P) ⟨#[47]⟩ 7).size ≤ 71 := by
    rw [cat_size]
    have : sumF (rowF P) (7 + 1) ≤ 8 * 8 := sum_bd (rowF P) 8 8 (fun j _ => rank_size8 P _)
    have e : (⟨#[47]⟩ : ByteArray).size = 1 := rfl
    rw [e]; omega
  have h2 := or_size _ (may_size (P 129) 4) (by omega)
  have h3 := or_size _ (name_size (P 130)) (by omega)
  rw [showS, cat_size]
  simp only [sumF, partF]
  have e : (⟨#[32]⟩ : ByteArray).size = 1 := rfl
  have e1 : (⟨#[sideB (P 128)]⟩ : ByteArray).size = 1 := rfl
  rw [e, e1]
  omega

/-! ### FenBack -/

theorem parse_show {P : Nat → Int} (h : rightM P = true) (hz : ∀ i, 133 ≤ i → P i = 0) : parseR (showS P) = (P, 0, 0) := by
  have hr := rt_of h
  unfold parseR
  rw [if_neg (by have := show_le hr; omega), showA hr hz]
  simp only
  rw [if_pos h]

theorem unlike {P Q : Nat → Int} (hP : rightM P = true) (hQ : rightM Q = true) (zP : ∀ i, 133 ≤ i → P i = 0) (zQ : ∀ i, 133 ≤ i → Q i = 0) : ((showS P).toList == (showS Q).toList) = eqI 133 P Q := by
  have e1 : ((showS P).toList == (showS Q).toList) = true ↔ showS P = showS Q := by
    rw [beq_iff_eq]
    exact ⟨str_inj, fun h => by rw [h]⟩
  have e2 : eqI 133 P Q = true ↔ P = Q := by
    rw [eqI_iff]
    refine ⟨fun h => ?_, fun h i _ => by rw [h]⟩
    funext i
    by_cases hi : i < 133
    · exact h i hi
    · rw [zP i (by omega), zQ i (by omega)]
  have e3 : showS P = showS Q ↔ P = Q := by
    refine ⟨fun h => ?_, fun h => by rw [h]⟩
    have a := parse_show hP zP
    rw [h, parse_show hQ zQ] at a
    exact (Prod.mk.inj a).1.symm
  rw [Bool.eq_iff_iff, e1, e2, e3]

theorem rks_err {s : ByteArray} : ∀ j k P e, j ≤ 8 → k ≤ s.size → rksR s j k P = .error e → e ≤ s.size
  | 0, k, P, e, _, _, h => by simp [rksR] at h
  | j + 1, k, P, e, hj, hk, h => by
    rw [rksR] at h
    split at h
    · rename_i e1 h1
      cases h
      exact row_err _ _ _ _ _ _ hk h1
    · rename_i P1 k1 h1
      have hk1 := (row_keep (show j < 8 by omega) _ _ _ _ _ _ _ hk h1).1
      split at h
      · split at h
        · rename_i ht
          exact rks_err j (k1 + 1) P1 e (by omega) (take_lt ht) h
        · cases h; exact hk1
      · cases h

theorem inn_err {s : ByteArray} {i k e : Nat} {P : Nat → Int} (hk : k ≤ s.size) (h : innR s i P k = .error e) : e ≤ s.size := by
  have num : ∀ c, numP s c P k = .error e → e ≤ s.size := by
    intro c h
    unfold numP numberR at h
    split at h
    · cases h
    · cases h; exact hk
  match i with
  | 0 =>
    have h : sideR s P k = _ := h
    unfold sideR at h
    split at h
    · cases h
    · cases h; exact hk
  | 1 =>
    have h : castP s P k = _ := h
    unfold castP castleR at h
    split at h
    · cases h
    · split at h
      · cases h
      · cases h; exact hk
  | 2 =>
    have h : overP s P k = _ := h
    unfold overP overR at h
    split at h
    · cases h
    · split at h
      · rename_i ht
        split at h
        · cases h
        · cases h; exact take_lt ht
      · cases h; exact hk
  | 3 => exact num 131 h
  | i + 4 => exact num 132 h

theorem parts_err {s : ByteArray} : ∀ j i k P e, k ≤ s.size → partsR s j i k P = .error e → e ≤ s.size
  | 0, i, k, P, e, _, h => by simp [partsR] at h
  | j + 1, i, k, P, e, hk, h => by
    rw [partsR] at h
    split at h
    · rename_i e1 h1
      cases h
      unfold partR spR at h1
      split at h1
      · rename_i ht
        exact inn_err (take_lt ht) h1
      · cases h1; exact hk
    · rename_i P1 k1 h1
      unfold partR spR at h1
      split at h1
      · exact parts_err j (i + 1) k1 P1 e (inn_keep2 h1).1 h
      · cases h1

theorem allR_err {s : ByteArray} {e : Nat} (h : allR s = .error e) : e ≤ s.size := by
  unfold allR at h
  split at h
  · rename_i e1 h1
    cases h
    exact rks_err _ _ _ _ (Nat.le_refl 8) (Nat.zero_le _) h1
  · rename_i P k h1
    have hk := (rks_keep _ _ _ _ _ (Nat.le_refl 8) (Nat.zero_le _) h1).1
    split at h
    · rename_i e2 h2
      cases h
      exact parts_err _ _ _ _ _ hk h2
    · split at h
      · rename_i hlt
        cases h; omega
      · cases h

/-- How a text's parse ends. -/
theorem parse_ends (s : ByteArray) : (∃ P, parseR s = (P, 0, 0) ∧ allR s = .ok P ∧ rightM P = true) ∨
    (∃ (k : Nat) (e : Int), parseR s = (fun _ => 0, (k : Int), e) ∧ k ≤ s.size ∧ ((e = 13 ∧ s.size ≤ 128 ∧ allR s = .error k) ∨ (e = 2 ∧ k = 0 ∧ s.size ≤ 128) ∨ (e = 3 ∧ k = 0 ∧ 128 < s.size))) := by
  unfold parseR
  split
  · rename_i h
    exact .inr ⟨0, 3, rfl, Nat.zero_le _, .inr (.inr ⟨rfl, rfl, h⟩)⟩
  · rename_i h
    cases hr : allR s with
    | error e => exact .inr ⟨e, 13, rfl, allR_err hr, .inl ⟨rfl, by omega, rfl⟩⟩
    | ok P =>
      simp only
      split
      · rename_i hP
        exact .inl ⟨P, rfl, rfl, hP⟩
      · exact .inr ⟨0, 2, rfl, Nat.zero_le _, .inr (.inl ⟨rfl, rfl, by omega⟩)⟩

/-- What is parsed is shown, the same. -/
theorem show_parse {s : ByteArray} {P : Nat → Int} (h : allR s = .ok P) (hr : rightM P = true) : showR P = (s, 0) := by
  unfold showR
  rw [if_pos hr, readA h (rt_of hr)]

end Go.Proofs.YtlaogmemhephnaaDoor
/- FenBack: the walk. -/
namespace Go.Proofs.YtlaogmemhephnaaDoor
open Go Go.Am
set_option linter.unusedSimpArgs false
set_option linter.unusedVariables false
set_option maxRecDepth 100000
theorem show_yes {P : Nat → Int} (h : rightM P = true) : RF AM2 6 [.agg 133 (ia P)] (.tup [.s (.str (showS P)), .s (.int .i64 0)]) := by
  have := show_run P
  unfold showR at this
  rw [if_pos h] at this
  exact this
theorem show_not {P : Nat → Int} (h : rightM P = false) : RF AM2 6 [.agg 133 (ia P)] (.tup [.s (.str ⟨#[]⟩), .s (.int .i64 2)]) := by
  have := show_run P
  unfold showR at this
  rw [if_neg (by rw [h]; decide)] at this
  exact this
theorem right_is2 {P : Nat → Int} {b : Bool} (h : rightM P = b) : RF AM2 9 [.agg 133 (ia P)] (.s (.bool b)) := by
  have := right_run P
  rw [h] at this
  exact this
theorem parse_is {s : ByteArray} {r : (Nat → Int) × Int × Int} (h : parseR s = r) : RF AM2 10 [.s (.str s)] (.tup [.agg 133 (ia r.1), .s (.int .i64 r.2.1), .s (.int .i64 r.2.2)]) := by
  have := parse_run s
  unfold parseV tup3 at this
  rw [h] at this
  exact this
theorem eq_same {P Q : Nat → Int} (h : P = Q) : (bif true then !(eqI 133 (ovA (fun _ => 0) 0 133 P) Q) else eqI 133 (ovA (fun _ => 0) 0 133 P) Q) = false := by
  subst h
  have : eqI 133 (ovA (fun _ => 0) 0 133 P) P = true := eqI_iff.2 fun i hi => ovA_at (by omega)
  rw [this]; rfl
theorem eq_zero : (bif false then !(eqI 133 (ovA (fun _ => 0) 0 133 (fun _ => 0)) (fun _ => 0)) else eqI 133 (ovA (fun _ => 0) 0 133 (fun _ => 0)) (fun _ => 0)) = true := by
  have : eqI 133 (ovA (fun _ => 0) 0 133 (fun _ => 0)) (fun _ => 0) = true := eqI_iff.2 fun i hi => ovA_at (by omega)
  rw [this]; rfl
theorem ov_self {P : Nat → Int} (h : ∀ i, 133 ≤ i → P i = 0) : ovA (fun _ => 0) 0 133 P = P := ovA_is (fun _ _ => rfl) fun i hi => (h i hi).symm
theorem parse_out {s : ByteArray} {P : Nat → Int} (h : allR s = .ok P) : ∀ i, 133 ≤ i → P i = 0 := (readB h).2.out
theorem show_back {s : ByteArray} {P : Nat → Int} (h : allR s = .ok P) (hr : rightM P = true) : RF AM2 6 [.agg 133 (ia (ovA (fun _ => 0) 0 133 P))] (.tup [.s (.str s), .s (.int .i64 0)]) := by
  have := show_run P
  rw [show_parse h hr] at this
  rw [ov_self (parse_out h)]
  exact this
theorem right_back {s : ByteArray} {P : Nat → Int} (h : allR s = .ok P) (hr : rightM P = true) : RF AM2 9 [.agg 133 (ia (ovA (fun _ => 0) 0 133 P))] (.s (.bool true)) := by
  rw [ov_self (parse_out h)]
  exact right_is2 hr

theorem Back_tt (P Q : Nat → Int) (s : ByteArray) (hP : rightM P = true) (hQ : rightM Q = true) (zP : ∀ i, 133 ≤ i → P i = 0) (zQ : ∀ i, 133 ≤ i → Q i = 0) (hsz : s.size ≤ 9223372036854775807) : WR AM2 4 [.agg 133 (ia P), .agg 133 (ia Q), .s (.str s)] [] (fun v _ _ => v = .s (.bool true)) := by
 have hs := hsz
 refine WR_fn (a := a4) rfl rfl (entryF _) (entry_E (Nat.le_of_ble_eq_true rfl)) (m := 0) rfl ?_
 refine WP_seq ?_
 refine WP_ops ?_
 refine WO_boxA rfl ?_
 refine WO_boxA rfl ?_
 refine WO_mv rfl ?_
 refine WO_nil ?_
 refine WP_seq ?_
 refine WP_seq ?_
 refine WP_ops ?_
 refine WO_call0 rfl (awake_run) rfl rfl rfl ?_
 refine WO_un (r := .bool _) rfl rfl ?_
 refine WO_nil ?_
 refine WP_cond rfl (fun h => nomatch h) (fun _ => ?_)
 refine WP_skip ?_
 refine WP_seq ?_
 refine WP_seq ?_
 refine WP_ops ?_
 refine WO_mv (v := .s _) rfl ?_
 refine WO_lenS rfl ?_
 refine WO_bin (r := .bool _) rfl rfl rfl ?_
 refine WO_nil ?_
 refine WP_cond rfl (fun h1 => ?_) (fun h1 => ?_)
 ·try simp only [NM] at h1
  refine WP_seq ?_
  refine WP_ops ?_
  refine WO_mv rfl ?_
  refine WO_nil ?_
  refine WP_ret ?_
  refine ⟨_, RS_tmp (v := .s (.bool _)) rfl (RS_nil), ?_⟩
  rfl
 ·try simp only [NM] at h1
  refine WP_skip ?_
  refine WP_seq ?_
  refine WP_ops ?_
  first | refine WO_ldA0 rfl rfl (.tail _ (.head _)) ?_ | refine WO_ldAI rfl rfl (.tail _ (.head _)) ?_
  refine WO_call0 rfl (show_yes hP) rfl rfl rfl ?_
  refine WO_mv (v := .tup _) rfl ?_
  refine WO_ext (v := .s _) rfl rfl ?_
  refine WO_ext (v := .s (.int _ _)) rfl rfl ?_
  refine WO_mv (v := .s _) rfl ?_
  refine WO_mv (v := .s (.int _ _)) rfl ?_
  refine WO_nil ?_
  refine WP_seq ?_
  refine WP_ops ?_
  first | refine WO_ldA0 rfl rfl (.head _) ?_ | refine WO_ldAI rfl rfl (.head _) ?_
  refine WO_call0 rfl (show_yes hQ) rfl rfl rfl ?_
  refine WO_mv (v := .tup _) rfl ?_
  refine WO_ext (v := .s _) rfl rfl ?_
  refine WO_ext (v := .s (.int _ _)) rfl rfl ?_
  refine WO_mv (v := .s _) rfl ?_
  refine WO_mv (v := .s (.int _ _)) rfl ?_
  refine WO_nil ?_
  refine WP_seq ?_
  refine WP_seq ?_
  refine WP_ops ?_
  refine WO_mv (v := .s (.int _ _)) rfl ?_
  refine WO_bin (r := .bool true) rfl rfl (rfl) ?_
  first | refine WO_ldA0 rfl rfl (.tail _ (.head _)) ?_ | refine WO_ldAI rfl rfl (.tail _ (.head _)) ?_
  refine WO_call0 rfl (right_is2 hP) rfl rfl rfl ?_
  refine WO_eqbF rfl rfl (rfl) ?_
  refine WO_mv (v := .s (.bool _)) rfl ?_
  refine WO_gt rfl ?_
  refine WO_mv (v := .s (.int _ _)) rfl ?_
  refine WO_gt rfl ?_
  refine WO_bin (r := .bool false) rfl rfl (rfl) ?_
  refine WO_gt rfl ?_
  refine WO_mv (v := .s (.bool _)) rfl ?_
  refine WO_gf rfl rfl ?_
  refine WO_gf rfl rfl ?_
  refine WO_gf rfl rfl ?_
  refine WO_gu rfl ?_
  refine WO_gu rfl ?_
  refine WO_gf rfl rfl ?_
  refine WO_gt rfl ?_
  refine WO_pick (v := .s (.bool _)) rfl rfl ?_
  refine WO_pick (v := .s (.bool _)) rfl rfl ?_
  refine WO_nil ?_
  refine WP_cond rfl (fun h => nomatch h) (fun _ => ?_)
  refine WP_skip ?_
  refine WP_seq ?_
  refine WP_seq ?_
  refine WP_ops ?_
  refine WO_mv (v := .s (.int _ _)) rfl ?_
  refine WO_bin (r := .bool true) rfl rfl (rfl) ?_
  refine WO_nil ?_
  refine WP_cond rfl (fun _ => ?_) (fun h => nomatch h)
  refine WP_seq ?_
  refine WP_ops ?_
  refine WO_mv (v := .s _) rfl ?_
  refine WO_call0 rfl (parse_is (parse_show hP zP)) rfl rfl rfl ?_
  refine WO_mv (v := .tup _) rfl ?_
  refine WO_ext (v := .agg _ _) rfl rfl ?_
  refine WO_ext (v := .s (.int _ _)) rfl rfl ?_
  refine WO_ext (v := .s (.int _ _)) rfl rfl ?_
  refine WO_allocI ?_
  refine WO_stA rfl rfl rfl rfl .here ?_
  refine WO_mv (v := .s (.int _ _)) rfl ?_
  refine WO_mv (v := .s (.int _ _)) rfl ?_
  refine WO_nil ?_
  refine WP_seq ?_
  refine WP_ops ?_
  refine WO_mv (v := .s (.int _ _)) rfl ?_
  refine WO_bin (r := .bool false) rfl rfl (rfl) ?_
  refine WO_mv (v := .s (.bool _)) rfl ?_
  refine WO_gt rfl ?_
  first | refine WO_ldA0 rfl rfl (.head _) ?_ | refine WO_ldAI rfl rfl (.head _) ?_
  refine WO_gt rfl ?_
  first | refine WO_ldA0 rfl rfl (.tail _ (.tail _ (.head _))) ?_ | refine WO_ldAI rfl rfl (.tail _ (.tail _ (.head _))) ?_
  refine WO_gt rfl ?_
  refine WO_eqaC rfl rfl (eq_same rfl) ?_
  refine WO_pick (v := .s (.bool _)) rfl rfl ?_
  refine WO_mv (v := .s (.bool _)) rfl ?_
  refine WO_gt rfl ?_
  refine WO_mv (v := .s _) rfl ?_
  refine WO_gt rfl ?_
  refine WO_lenS rfl ?_
  refine WO_gt rfl ?_
  refine WO_bin (r := .bool false) rfl rfl (by show some (S.bool (decide _)) = _; rw [decide_eq_false (by have := show_le (rt_of hP); omega)]) ?_
  refine WO_pick (v := .s (.bool _)) rfl rfl ?_
  refine WO_nil ?_
  refine WP_cond rfl (fun h => nomatch h) (fun _ => ?_)
  refine WP_skip ?_
  refine WP_cut (fun f n L => f 2 = .s (.str s)) ?_ (fun f nb L hI => ?_)
  ·skip
   refine WP_seq ?_
   refine WP_ops ?_
   refine WO_mv (v := .s (.int _ _)) rfl ?_
   refine WO_bin (r := .bool true) rfl rfl (rfl) ?_
   refine WO_mv (v := .s (.bool _)) rfl ?_
   refine WO_gt rfl ?_
   refine WO_mv (v := .s (.int _ _)) rfl ?_
   refine WO_gt rfl ?_
   refine WO_bin (r := .bool true) rfl rfl (rfl) ?_
   refine WO_pick (v := .s (.bool _)) rfl rfl ?_
   refine WO_mv (v := .s (.bool _)) rfl ?_
   refine WO_gt rfl ?_
   refine WO_mv (v := .s _) rfl ?_
   refine WO_gt rfl ?_
   refine WO_mv (v := .s _) rfl ?_
   refine WO_gt rfl ?_
   refine WO_bin (r := .bool _) rfl rfl rfl ?_
   refine WO_gt rfl ?_
   first | refine WO_ldA0 rfl rfl (.tail _ (.tail _ (.head _))) ?_ | refine WO_ldAI rfl rfl (.tail _ (.tail _ (.head _))) ?_
   refine WO_gt rfl ?_
   first | refine WO_ldA0 rfl rfl (.tail _ (.head _)) ?_ | refine WO_ldAI rfl rfl (.tail _ (.head _)) ?_
   refine WO_gt rfl ?_
   refine WO_eqa rfl rfl ?_
   refine WO_gt rfl ?_
   refine WO_eqbF rfl rfl (unlike hP hQ zP zQ) ?_
   refine WO_pick (v := .s (.bool _)) rfl rfl ?_
   refine WO_nil ?_
   refine WP_cond rfl (fun h => nomatch h) (fun _ => ?_)
   refine WP_skip ?_
   exact ⟨_, .refl _, rfl⟩
  ·skip
   refine WP_know (d := 2) (v := .s (.str s)) hI ?_
   clear hI hs
   refine WP_sub (L' := []) (List.nil_sublist _) ?_
   rcases parse_ends s with ⟨R, hR, hA, hRR⟩ | ⟨k, e, hR, hk, he⟩
   ·skip
    have zR := parse_out hA
    refine WP_seq ?_
    refine WP_ops ?_
    refine WO_mv (v := .s _) rfl ?_
    refine WO_call0 rfl (parse_is hR) rfl rfl rfl ?_
    refine WO_mv (v := .tup _) rfl ?_
    refine WO_ext (v := .agg _ _) rfl rfl ?_
    refine WO_ext (v := .s (.int _ _)) rfl rfl ?_
    refine WO_ext (v := .s (.int _ _)) rfl rfl ?_
    refine WO_allocI ?_
    refine WO_stA rfl rfl rfl rfl .here ?_
    refine WO_mv (v := .s (.int _ _)) rfl ?_
    refine WO_mv (v := .s (.int _ _)) rfl ?_
    refine WO_nil ?_
    refine WP_seq ?_
    refine WP_seq ?_
    refine WP_ops ?_
    refine WO_mv (v := .s (.int _ _)) rfl ?_
    refine WO_bin (r := .bool false) rfl rfl (rfl) ?_
    refine WO_nil ?_
    refine WP_cond rfl (fun h => nomatch h) (fun _ => ?_)
    refine WP_skip ?_
    refine WP_seq ?_
    refine WP_ops ?_
    first | refine WO_ldA0 rfl rfl (.head _) ?_ | refine WO_ldAI rfl rfl (.head _) ?_
    refine WO_call0 rfl (show_back hA hRR) rfl rfl rfl ?_
    refine WO_mv (v := .tup _) rfl ?_
    refine WO_ext (v := .s _) rfl rfl ?_
    refine WO_ext (v := .s (.int _ _)) rfl rfl ?_
    refine WO_mv (v := .s _) rfl ?_
    refine WO_mv (v := .s (.int _ _)) rfl ?_
    refine WO_nil ?_
    refine WP_seq ?_
    refine WP_ops ?_
    refine WO_mv (v := .s (.int _ _)) rfl ?_
    refine WO_bin (r := .bool true) rfl rfl (rfl) ?_
    refine WO_mv (v := .s (.bool _)) rfl ?_
    refine WO_gt rfl ?_
    refine WO_mv (v := .s _) rfl ?_
    refine WO_gt rfl ?_
    refine WO_mv (v := .s _) rfl ?_
    refine WO_gt rfl ?_
    refine WO_bin (r := .bool true) rfl rfl (by show some (S.bool (_ == _)) = _; rw [beq_self_eq_true]) ?_
    refine WO_pick (v := .s (.bool _)) rfl rfl ?_
    refine WO_mv (v := .s (.bool _)) rfl ?_
    refine WO_gt rfl ?_
    first | refine WO_ldA0 rfl rfl (.head _) ?_ | refine WO_ldAI rfl rfl (.head _) ?_
    refine WO_gt rfl ?_
    refine WO_call0 rfl (right_back hA hRR) rfl rfl rfl ?_
    refine WO_pick (v := .s (.bool _)) rfl rfl ?_
    refine WO_mv (v := .s (.bool _)) rfl ?_
    refine WO_nil ?_
    refine WP_ret ?_
    refine ⟨_, RS_tmp (v := .s (.bool _)) rfl (RS_nil), ?_⟩
    rfl
   ·skip
    have h0 : e ≠ 0 := by rcases he with h | h | h <;> omega
    refine WP_seq ?_
    refine WP_ops ?_
    refine WO_mv (v := .s _) rfl ?_
    refine WO_call0 rfl (parse_is hR) rfl rfl rfl ?_
    refine WO_mv (v := .tup _) rfl ?_
    refine WO_ext (v := .agg _ _) rfl rfl ?_
    refine WO_ext (v := .s (.int _ _)) rfl rfl ?_
    refine WO_ext (v := .s (.int _ _)) rfl rfl ?_
    refine WO_allocI ?_
    refine WO_stA rfl rfl rfl rfl .here ?_
    refine WO_mv (v := .s (.int _ _)) rfl ?_
    refine WO_mv (v := .s (.int _ _)) rfl ?_
    refine WO_nil ?_
    refine WP_seq ?_
    refine WP_seq ?_
    refine WP_ops ?_
    refine WO_mv (v := .s (.int _ _)) rfl ?_
    refine WO_bin (r := .bool true) rfl rfl (by show some (S.bool (_ != _)) = _; rw [show ((e != 0) = true) from bne_iff_ne.2 h0]) ?_
    refine WO_nil ?_
    refine WP_cond rfl (fun _ => ?_) (fun h => nomatch h)
    refine WP_seq ?_
    refine WP_ops ?_
    first | refine WO_ldA0 rfl rfl (.head _) ?_ | refine WO_ldAI rfl rfl (.head _) ?_
    refine WO_buildI rfl .nil ?_
    refine WO_eqaC rfl rfl (eq_zero) ?_
    refine WO_mv (v := .s (.bool _)) rfl ?_
    refine WO_gt rfl ?_
    refine WO_mv (v := .s (.int _ _)) rfl ?_
    refine WO_gt rfl ?_
    refine WO_bin (r := .bool true) rfl rfl (by show some (S.bool (decide ((k : Int) ≥ 0))) = _; rw [decide_eq_true (by omega)]) ?_
    refine WO_pick (v := .s (.bool _)) rfl rfl ?_
    refine WO_mv (v := .s (.bool _)) rfl ?_
    refine WO_gt rfl ?_
    refine WO_mv (v := .s (.int _ _)) rfl ?_
    refine WO_gt rfl ?_
    refine WO_mv (v := .s _) rfl ?_
    refine WO_gt rfl ?_
    refine WO_lenS rfl ?_
    refine WO_gt rfl ?_
    refine WO_bin (r := .bool true) rfl rfl (by show some (S.bool (decide ((k : Int) ≤ (s.size : Int)))) = _; rw [decide_eq_true (by omega)]) ?_
    refine WO_pick (v := .s (.bool _)) rfl rfl ?_
    refine WO_mv (v := .s (.bool _)) rfl ?_
    refine WO_gt rfl ?_
    refine WO_mv (v := .s (.int _ _)) rfl ?_
    refine WO_gt rfl ?_
    refine WO_bin (r := .bool _) rfl rfl rfl ?_
    refine WO_gt rfl ?_
    refine WO_mv (v := .s (.bool _)) rfl ?_
    refine WO_case (t := 110) rfl (fun h13 => ?_) (fun h13 => ?_)
    ·try simp only [NM] at h13
     refine WO_gf rfl rfl ?_
     refine WO_gf rfl rfl ?_
     refine WO_gt rfl ?_
     refine WO_pick (v := .s (.bool _)) rfl rfl ?_
     refine WO_pick (v := .s (.bool _)) rfl rfl ?_
     refine WO_mv (v := .s (.bool _)) rfl ?_
     refine WO_nil ?_
     refine WP_ret ?_
     refine ⟨_, RS_tmp (v := .s (.bool _)) rfl (RS_nil), ?_⟩
     rfl
    ·try simp only [NM] at h13
     refine WO_gt rfl ?_
     refine WO_mv (v := .s (.int _ _)) rfl ?_
     refine WO_gt rfl ?_
     refine WO_bin (r := .bool true) rfl rfl (by show some (S.bool (_ == _)) = _; rw [show k = 0 by rcases he with h | h | h <;> omega]; rfl) ?_
     refine WO_gt rfl ?_
     refine WO_pick (v := .s (.bool _)) rfl rfl ?_
     refine WO_pick (v := .s (.bool _)) rfl rfl ?_
     refine WO_mv (v := .s (.bool _)) rfl ?_
     refine WO_nil ?_
     refine WP_ret ?_
     refine ⟨_, RS_tmp (v := .s (.bool _)) rfl (RS_nil), ?_⟩
     rfl
theorem Back_tf (P Q : Nat → Int) (s : ByteArray) (hP : rightM P = true) (hQ : rightM Q = false) (zP : ∀ i, 133 ≤ i → P i = 0) (zQ : ∀ i, 133 ≤ i → Q i = 0) (hsz : s.size ≤ 9223372036854775807) : WR AM2 4 [.agg 133 (ia P), .agg 133 (ia Q), .s (.str s)] [] (fun v _ _ => v = .s (.bool true)) := by
 have hs := hsz
 refine WR_fn (a := a4) rfl rfl (entryF _) (entry_E (Nat.le_of_ble_eq_true rfl)) (m := 0) rfl ?_
 refine WP_seq ?_
 refine WP_ops ?_
 refine WO_boxA rfl ?_
 refine WO_boxA rfl ?_
 refine WO_mv rfl ?_
 refine WO_nil ?_
 refine WP_seq ?_
 refine WP_seq ?_
 refine WP_ops ?_
 refine WO_call0 rfl (awake_run) rfl rfl rfl ?_
 refine WO_un (r := .bool _) rfl rfl ?_
 refine WO_nil ?_
 refine WP_cond rfl (fun h => nomatch h) (fun _ => ?_)
 refine WP_skip ?_
 refine WP_seq ?_
 refine WP_seq ?_
 refine WP_ops ?_
 refine WO_mv (v := .s _) rfl ?_
 refine WO_lenS rfl ?_
 refine WO_bin (r := .bool _) rfl rfl rfl ?_
 refine WO_nil ?_
 refine WP_cond rfl (fun h2 => ?_) (fun h2 => ?_)
 ·try simp only [NM] at h2
  refine WP_seq ?_
  refine WP_ops ?_
  refine WO_mv rfl ?_
  refine WO_nil ?_
  refine WP_ret ?_
  refine ⟨_, RS_tmp (v := .s (.bool _)) rfl (RS_nil), ?_⟩
  rfl
 ·try simp only [NM] at h2
  refine WP_skip ?_
  refine WP_seq ?_
  refine WP_ops ?_
  first | refine WO_ldA0 rfl rfl (.tail _ (.head _)) ?_ | refine WO_ldAI rfl rfl (.tail _ (.head _)) ?_
  refine WO_call0 rfl (show_yes hP) rfl rfl rfl ?_
  refine WO_mv (v := .tup _) rfl ?_
  refine WO_ext (v := .s _) rfl rfl ?_
  refine WO_ext (v := .s (.int _ _)) rfl rfl ?_
  refine WO_mv (v := .s _) rfl ?_
  refine WO_mv (v := .s (.int _ _)) rfl ?_
  refine WO_nil ?_
  refine WP_seq ?_
  refine WP_ops ?_
  first | refine WO_ldA0 rfl rfl (.head _) ?_ | refine WO_ldAI rfl rfl (.head _) ?_
  refine WO_call0 rfl (show_not hQ) rfl rfl rfl ?_
  refine WO_mv (v := .tup _) rfl ?_
  refine WO_ext (v := .s _) rfl rfl ?_
  refine WO_ext (v := .s (.int _ _)) rfl rfl ?_
  refine WO_mv (v := .s _) rfl ?_
  refine WO_mv (v := .s (.int _ _)) rfl ?_
  refine WO_nil ?_
  refine WP_seq ?_
  refine WP_seq ?_
  refine WP_ops ?_
  refine WO_mv (v := .s (.int _ _)) rfl ?_
  refine WO_bin (r := .bool true) rfl rfl (rfl) ?_
  first | refine WO_ldA0 rfl rfl (.tail _ (.head _)) ?_ | refine WO_ldAI rfl rfl (.tail _ (.head _)) ?_
  refine WO_call0 rfl (right_is2 hP) rfl rfl rfl ?_
  refine WO_eqbF rfl rfl (rfl) ?_
  refine WO_mv (v := .s (.bool _)) rfl ?_
  refine WO_gt rfl ?_
  refine WO_mv (v := .s (.int _ _)) rfl ?_
  refine WO_gt rfl ?_
  refine WO_bin (r := .bool false) rfl rfl (rfl) ?_
  refine WO_gt rfl ?_
  refine WO_mv (v := .s (.bool _)) rfl ?_
  refine WO_gf rfl rfl ?_
  refine WO_gf rfl rfl ?_
  refine WO_gf rfl rfl ?_
  refine WO_gu rfl ?_
  refine WO_gu rfl ?_
  refine WO_gf rfl rfl ?_
  refine WO_gt rfl ?_
  refine WO_pick (v := .s (.bool _)) rfl rfl ?_
  refine WO_pick (v := .s (.bool _)) rfl rfl ?_
  refine WO_nil ?_
  refine WP_cond rfl (fun h => nomatch h) (fun _ => ?_)
  refine WP_skip ?_
  refine WP_seq ?_
  refine WP_seq ?_
  refine WP_ops ?_
  refine WO_mv (v := .s (.int _ _)) rfl ?_
  refine WO_bin (r := .bool true) rfl rfl (rfl) ?_
  refine WO_nil ?_
  refine WP_cond rfl (fun _ => ?_) (fun h => nomatch h)
  refine WP_seq ?_
  refine WP_ops ?_
  refine WO_mv (v := .s _) rfl ?_
  refine WO_call0 rfl (parse_is (parse_show hP zP)) rfl rfl rfl ?_
  refine WO_mv (v := .tup _) rfl ?_
  refine WO_ext (v := .agg _ _) rfl rfl ?_
  refine WO_ext (v := .s (.int _ _)) rfl rfl ?_
  refine WO_ext (v := .s (.int _ _)) rfl rfl ?_
  refine WO_allocI ?_
  refine WO_stA rfl rfl rfl rfl .here ?_
  refine WO_mv (v := .s (.int _ _)) rfl ?_
  refine WO_mv (v := .s (.int _ _)) rfl ?_
  refine WO_nil ?_
  refine WP_seq ?_
  refine WP_ops ?_
  refine WO_mv (v := .s (.int _ _)) rfl ?_
  refine WO_bin (r := .bool false) rfl rfl (rfl) ?_
  refine WO_mv (v := .s (.bool _)) rfl ?_
  refine WO_gt rfl ?_
  first | refine WO_ldA0 rfl rfl (.head _) ?_ | refine WO_ldAI rfl rfl (.head _) ?_
  refine WO_gt rfl ?_
  first | refine WO_ldA0 rfl rfl (.tail _ (.tail _ (.head _))) ?_ | refine WO_ldAI rfl rfl (.tail _ (.tail _ (.head _))) ?_
  refine WO_gt rfl ?_
  refine WO_eqaC rfl rfl (eq_same rfl) ?_
  refine WO_pick (v := .s (.bool _)) rfl rfl ?_
  refine WO_mv (v := .s (.bool _)) rfl ?_
  refine WO_gt rfl ?_
  refine WO_mv (v := .s _) rfl ?_
  refine WO_gt rfl ?_
  refine WO_lenS rfl ?_
  refine WO_gt rfl ?_
  refine WO_bin (r := .bool false) rfl rfl (by show some (S.bool (decide _)) = _; rw [decide_eq_false (by have := show_le (rt_of hP); omega)]) ?_
  refine WO_pick (v := .s (.bool _)) rfl rfl ?_
  refine WO_nil ?_
  refine WP_cond rfl (fun h => nomatch h) (fun _ => ?_)
  refine WP_skip ?_
  refine WP_cut (fun f n L => f 2 = .s (.str s)) ?_ (fun f nb L hI => ?_)
  ·skip
   refine WP_seq ?_
   refine WP_ops ?_
   refine WO_mv (v := .s (.int _ _)) rfl ?_
   refine WO_bin (r := .bool true) rfl rfl (rfl) ?_
   refine WO_mv (v := .s (.bool _)) rfl ?_
   refine WO_gt rfl ?_
   refine WO_mv (v := .s (.int _ _)) rfl ?_
   refine WO_gt rfl ?_
   refine WO_bin (r := .bool false) rfl rfl (rfl) ?_
   refine WO_pick (v := .s (.bool _)) rfl rfl ?_
   refine WO_mv (v := .s (.bool _)) rfl ?_
   refine WO_gf rfl rfl ?_
   refine WO_gf rfl rfl ?_
   refine WO_gf rfl rfl ?_
   refine WO_gf rfl rfl ?_
   refine WO_gf rfl rfl ?_
   refine WO_gf rfl rfl ?_
   refine WO_gf rfl rfl ?_
   refine WO_pick (v := .s (.bool _)) rfl rfl ?_
   refine WO_nil ?_
   refine WP_cond rfl (fun h => nomatch h) (fun _ => ?_)
   refine WP_skip ?_
   exact ⟨_, .refl _, rfl⟩
  ·skip
   refine WP_know (d := 2) (v := .s (.str s)) hI ?_
   clear hI hs
   refine WP_sub (L' := []) (List.nil_sublist _) ?_
   rcases parse_ends s with ⟨R, hR, hA, hRR⟩ | ⟨k, e, hR, hk, he⟩
   ·skip
    have zR := parse_out hA
    refine WP_seq ?_
    refine WP_ops ?_
    refine WO_mv (v := .s _) rfl ?_
    refine WO_call0 rfl (parse_is hR) rfl rfl rfl ?_
    refine WO_mv (v := .tup _) rfl ?_
    refine WO_ext (v := .agg _ _) rfl rfl ?_
    refine WO_ext (v := .s (.int _ _)) rfl rfl ?_
    refine WO_ext (v := .s (.int _ _)) rfl rfl ?_
    refine WO_allocI ?_
    refine WO_stA rfl rfl rfl rfl .here ?_
    refine WO_mv (v := .s (.int _ _)) rfl ?_
    refine WO_mv (v := .s (.int _ _)) rfl ?_
    refine WO_nil ?_
    refine WP_seq ?_
    refine WP_seq ?_
    refine WP_ops ?_
    refine WO_mv (v := .s (.int _ _)) rfl ?_
    refine WO_bin (r := .bool false) rfl rfl (rfl) ?_
    refine WO_nil ?_
    refine WP_cond rfl (fun h => nomatch h) (fun _ => ?_)
    refine WP_skip ?_
    refine WP_seq ?_
    refine WP_ops ?_
    first | refine WO_ldA0 rfl rfl (.head _) ?_ | refine WO_ldAI rfl rfl (.head _) ?_
    refine WO_call0 rfl (show_back hA hRR) rfl rfl rfl ?_
    refine WO_mv (v := .tup _) rfl ?_
    refine WO_ext (v := .s _) rfl rfl ?_
    refine WO_ext (v := .s (.int _ _)) rfl rfl ?_
    refine WO_mv (v := .s _) rfl ?_
    refine WO_mv (v := .s (.int _ _)) rfl ?_
    refine WO_nil ?_
    refine WP_seq ?_
    refine WP_ops ?_
    refine WO_mv (v := .s (.int _ _)) rfl ?_
    refine WO_bin (r := .bool true) rfl rfl (rfl) ?_
    refine WO_mv (v := .s (.bool _)) rfl ?_
    refine WO_gt rfl ?_
    refine WO_mv (v := .s _) rfl ?_
    refine WO_gt rfl ?_
    refine WO_mv (v := .s _) rfl ?_
    refine WO_gt rfl ?_
    refine WO_bin (r := .bool true) rfl rfl (by show some (S.bool (_ == _)) = _; rw [beq_self_eq_true]) ?_
    refine WO_pick (v := .s (.bool _)) rfl rfl ?_
    refine WO_mv (v := .s (.bool _)) rfl ?_
    refine WO_gt rfl ?_
    first | refine WO_ldA0 rfl rfl (.head _) ?_ | refine WO_ldAI rfl rfl (.head _) ?_
    refine WO_gt rfl ?_
    refine WO_call0 rfl (right_back hA hRR) rfl rfl rfl ?_
    refine WO_pick (v := .s (.bool _)) rfl rfl ?_
    refine WO_mv (v := .s (.bool _)) rfl ?_
    refine WO_nil ?_
    refine WP_ret ?_
    refine ⟨_, RS_tmp (v := .s (.bool _)) rfl (RS_nil), ?_⟩
    rfl
   ·skip
    have h0 : e ≠ 0 := by rcases he with h | h | h <;> omega
    refine WP_seq ?_
    refine WP_ops ?_
    refine WO_mv (v := .s _) rfl ?_
    refine WO_call0 rfl (parse_is hR) rfl rfl rfl ?_
    refine WO_mv (v := .tup _) rfl ?_
    refine WO_ext (v := .agg _ _) rfl rfl ?_
    refine WO_ext (v := .s (.int _ _)) rfl rfl ?_
    refine WO_ext (v := .s (.int _ _)) rfl rfl ?_
    refine WO_allocI ?_
    refine WO_stA rfl rfl rfl rfl .here ?_
    refine WO_mv (v := .s (.int _ _)) rfl ?_
    refine WO_mv (v := .s (.int _ _)) rfl ?_
    refine WO_nil ?_
    refine WP_seq ?_
    refine WP_seq ?_
    refine WP_ops ?_
    refine WO_mv (v := .s (.int _ _)) rfl ?_
    refine WO_bin (r := .bool true) rfl rfl (by show some (S.bool (_ != _)) = _; rw [show ((e != 0) = true) from bne_iff_ne.2 h0]) ?_
    refine WO_nil ?_
    refine WP_cond rfl (fun _ => ?_) (fun h => nomatch h)
    refine WP_seq ?_
    refine WP_ops ?_
    first | refine WO_ldA0 rfl rfl (.head _) ?_ | refine WO_ldAI rfl rfl (.head _) ?_
    refine WO_buildI rfl .nil ?_
    refine WO_eqaC rfl rfl (eq_zero) ?_
    refine WO_mv (v := .s (.bool _)) rfl ?_
    refine WO_gt rfl ?_
    refine WO_mv (v := .s (.int _ _)) rfl ?_
    refine WO_gt rfl ?_
    refine WO_bin (r := .bool true) rfl rfl (by show some (S.bool (decide ((k : Int) ≥ 0))) = _; rw [decide_eq_true (by omega)]) ?_
    refine WO_pick (v := .s (.bool _)) rfl rfl ?_
    refine WO_mv (v := .s (.bool _)) rfl ?_
    refine WO_gt rfl ?_
    refine WO_mv (v := .s (.int _ _)) rfl ?_
    refine WO_gt rfl ?_
    refine WO_mv (v := .s _) rfl ?_
    refine WO_gt rfl ?_
    refine WO_lenS rfl ?_
    refine WO_gt rfl ?_
    refine WO_bin (r := .bool true) rfl rfl (by show some (S.bool (decide ((k : Int) ≤ (s.size : Int)))) = _; rw [decide_eq_true (by omega)]) ?_
    refine WO_pick (v := .s (.bool _)) rfl rfl ?_
    refine WO_mv (v := .s (.bool _)) rfl ?_
    refine WO_gt rfl ?_
    refine WO_mv (v := .s (.int _ _)) rfl ?_
    refine WO_gt rfl ?_
    refine WO_bin (r := .bool _) rfl rfl rfl ?_
    refine WO_gt rfl ?_
    refine WO_mv (v := .s (.bool _)) rfl ?_
    refine WO_case (t := 110) rfl (fun h13 => ?_) (fun h13 => ?_)
    ·try simp only [NM] at h13
     refine WO_gf rfl rfl ?_
     refine WO_gf rfl rfl ?_
     refine WO_gt rfl ?_
     refine WO_pick (v := .s (.bool _)) rfl rfl ?_
     refine WO_pick (v := .s (.bool _)) rfl rfl ?_
     refine WO_mv (v := .s (.bool _)) rfl ?_
     refine WO_nil ?_
     refine WP_ret ?_
     refine ⟨_, RS_tmp (v := .s (.bool _)) rfl (RS_nil), ?_⟩
     rfl
    ·try simp only [NM] at h13
     refine WO_gt rfl ?_
     refine WO_mv (v := .s (.int _ _)) rfl ?_
     refine WO_gt rfl ?_
     refine WO_bin (r := .bool true) rfl rfl (by show some (S.bool (_ == _)) = _; rw [show k = 0 by rcases he with h | h | h <;> omega]; rfl) ?_
     refine WO_gt rfl ?_
     refine WO_pick (v := .s (.bool _)) rfl rfl ?_
     refine WO_pick (v := .s (.bool _)) rfl rfl ?_
     refine WO_mv (v := .s (.bool _)) rfl ?_
     refine WO_nil ?_
     refine WP_ret ?_
     refine ⟨_, RS_tmp (v := .s (.bool _)) rfl (RS_nil), ?_⟩
     rfl
theorem Back_ft (P Q : Nat → Int) (s : ByteArray) (hP : rightM P = false) (hQ : rightM Q = true) (zP : ∀ i, 133 ≤ i → P i = 0) (zQ : ∀ i, 133 ≤ i → Q i = 0) (hsz : s.size ≤ 9223372036854775807) : WR AM2 4 [.agg 133 (ia P), .agg 133 (ia Q), .s (.str s)] [] (fun v _ _ => v = .s (.bool true)) := by
 have hs := hsz
 refine WR_fn (a := a4) rfl rfl (entryF _) (entry_E (Nat.le_of_ble_eq_true rfl)) (m := 0) rfl ?_
 refine WP_seq ?_
 refine WP_ops ?_
 refine WO_boxA rfl ?_
 refine WO_boxA rfl ?_
 refine WO_mv rfl ?_
 refine WO_nil ?_
 refine WP_seq ?_
 refine WP_seq ?_
 refine WP_ops ?_
 refine WO_call0 rfl (awake_run) rfl rfl rfl ?_
 refine WO_un (r := .bool _) rfl rfl ?_
 refine WO_nil ?_
 refine WP_cond rfl (fun h => nomatch h) (fun _ => ?_)
 refine WP_skip ?_
 refine WP_seq ?_
 refine WP_seq ?_
 refine WP_ops ?_
 refine WO_mv (v := .s _) rfl ?_
 refine WO_lenS rfl ?_
 refine WO_bin (r := .bool _) rfl rfl rfl ?_
 refine WO_nil ?_
 refine WP_cond rfl (fun h3 => ?_) (fun h3 => ?_)
 ·try simp only [NM] at h3
  refine WP_seq ?_
  refine WP_ops ?_
  refine WO_mv rfl ?_
  refine WO_nil ?_
  refine WP_ret ?_
  refine ⟨_, RS_tmp (v := .s (.bool _)) rfl (RS_nil), ?_⟩
  rfl
 ·try simp only [NM] at h3
  refine WP_skip ?_
  refine WP_seq ?_
  refine WP_ops ?_
  first | refine WO_ldA0 rfl rfl (.tail _ (.head _)) ?_ | refine WO_ldAI rfl rfl (.tail _ (.head _)) ?_
  refine WO_call0 rfl (show_not hP) rfl rfl rfl ?_
  refine WO_mv (v := .tup _) rfl ?_
  refine WO_ext (v := .s _) rfl rfl ?_
  refine WO_ext (v := .s (.int _ _)) rfl rfl ?_
  refine WO_mv (v := .s _) rfl ?_
  refine WO_mv (v := .s (.int _ _)) rfl ?_
  refine WO_nil ?_
  refine WP_seq ?_
  refine WP_ops ?_
  first | refine WO_ldA0 rfl rfl (.head _) ?_ | refine WO_ldAI rfl rfl (.head _) ?_
  refine WO_call0 rfl (show_yes hQ) rfl rfl rfl ?_
  refine WO_mv (v := .tup _) rfl ?_
  refine WO_ext (v := .s _) rfl rfl ?_
  refine WO_ext (v := .s (.int _ _)) rfl rfl ?_
  refine WO_mv (v := .s _) rfl ?_
  refine WO_mv (v := .s (.int _ _)) rfl ?_
  refine WO_nil ?_
  refine WP_seq ?_
  refine WP_seq ?_
  refine WP_ops ?_
  refine WO_mv (v := .s (.int _ _)) rfl ?_
  refine WO_bin (r := .bool false) rfl rfl (rfl) ?_
  first | refine WO_ldA0 rfl rfl (.tail _ (.head _)) ?_ | refine WO_ldAI rfl rfl (.tail _ (.head _)) ?_
  refine WO_call0 rfl (right_is2 hP) rfl rfl rfl ?_
  refine WO_eqbF rfl rfl (rfl) ?_
  refine WO_mv (v := .s (.bool _)) rfl ?_
  refine WO_gt rfl ?_
  refine WO_mv (v := .s (.int _ _)) rfl ?_
  refine WO_gt rfl ?_
  refine WO_bin (r := .bool true) rfl rfl (rfl) ?_
  refine WO_gt rfl ?_
  refine WO_mv (v := .s (.bool _)) rfl ?_
  refine WO_gt rfl ?_
  refine WO_mv (v := .s _) rfl ?_
  refine WO_gt rfl ?_
  refine WO_bin (r := .bool false) rfl rfl (by show some (S.bool (!(_ == _))) = _; rw [beq_self_eq_true]; rfl) ?_
  refine WO_gt rfl ?_
  refine WO_mv (v := .s (.bool _)) rfl ?_
  refine WO_gt rfl ?_
  refine WO_mv (v := .s (.int _ _)) rfl ?_
  refine WO_gt rfl ?_
  refine WO_bin (r := .bool false) rfl rfl (rfl) ?_
  refine WO_gt rfl ?_
  refine WO_pick (v := .s (.bool _)) rfl rfl ?_
  refine WO_gt rfl ?_
  refine WO_pick (v := .s (.bool _)) rfl rfl ?_
  refine WO_pick (v := .s (.bool _)) rfl rfl ?_
  refine WO_nil ?_
  refine WP_cond rfl (fun h => nomatch h) (fun _ => ?_)
  refine WP_skip ?_
  refine WP_seq ?_
  refine WP_seq ?_
  refine WP_ops ?_
  refine WO_mv (v := .s (.int _ _)) rfl ?_
  refine WO_bin (r := .bool false) rfl rfl (rfl) ?_
  refine WO_nil ?_
  refine WP_cond rfl (fun h => nomatch h) (fun _ => ?_)
  refine WP_skip ?_
  refine WP_cut (fun f n L => f 2 = .s (.str s)) ?_ (fun f nb L hI => ?_)
  ·skip
   refine WP_seq ?_
   refine WP_ops ?_
   refine WO_mv (v := .s (.int _ _)) rfl ?_
   refine WO_bin (r := .bool false) rfl rfl (rfl) ?_
   refine WO_mv (v := .s (.bool _)) rfl ?_
   refine WO_gf rfl rfl ?_
   refine WO_gf rfl rfl ?_
   refine WO_pick (v := .s (.bool _)) rfl rfl ?_
   refine WO_mv (v := .s (.bool _)) rfl ?_
   refine WO_gf rfl rfl ?_
   refine WO_gf rfl rfl ?_
   refine WO_gf rfl rfl ?_
   refine WO_gf rfl rfl ?_
   refine WO_gf rfl rfl ?_
   refine WO_gf rfl rfl ?_
   refine WO_gf rfl rfl ?_
   refine WO_pick (v := .s (.bool _)) rfl rfl ?_
   refine WO_nil ?_
   refine WP_cond rfl (fun h => nomatch h) (fun _ => ?_)
   refine WP_skip ?_
   exact ⟨_, .refl _, rfl⟩
  ·skip
   refine WP_know (d := 2) (v := .s (.str s)) hI ?_
   clear hI hs
   refine WP_sub (L' := []) (List.nil_sublist _) ?_
   rcases parse_ends s with ⟨R, hR, hA, hRR⟩ | ⟨k, e, hR, hk, he⟩
   ·skip
    have zR := parse_out hA
    refine WP_seq ?_
    refine WP_ops ?_
    refine WO_mv (v := .s _) rfl ?_
    refine WO_call0 rfl (parse_is hR) rfl rfl rfl ?_
    refine WO_mv (v := .tup _) rfl ?_
    refine WO_ext (v := .agg _ _) rfl rfl ?_
    refine WO_ext (v := .s (.int _ _)) rfl rfl ?_
    refine WO_ext (v := .s (.int _ _)) rfl rfl ?_
    refine WO_allocI ?_
    refine WO_stA rfl rfl rfl rfl .here ?_
    refine WO_mv (v := .s (.int _ _)) rfl ?_
    refine WO_mv (v := .s (.int _ _)) rfl ?_
    refine WO_nil ?_
    refine WP_seq ?_
    refine WP_seq ?_
    refine WP_ops ?_
    refine WO_mv (v := .s (.int _ _)) rfl ?_
    refine WO_bin (r := .bool false) rfl rfl (rfl) ?_
    refine WO_nil ?_
    refine WP_cond rfl (fun h => nomatch h) (fun _ => ?_)
    refine WP_skip ?_
    refine WP_seq ?_
    refine WP_ops ?_
    first | refine WO_ldA0 rfl rfl (.head _) ?_ | refine WO_ldAI rfl rfl (.head _) ?_
    refine WO_call0 rfl (show_back hA hRR) rfl rfl rfl ?_
    refine WO_mv (v := .tup _) rfl ?_
    refine WO_ext (v := .s _) rfl rfl ?_
    refine WO_ext (v := .s (.int _ _)) rfl rfl ?_
    refine WO_mv (v := .s _) rfl ?_
    refine WO_mv (v := .s (.int _ _)) rfl ?_
    refine WO_nil ?_
    refine WP_seq ?_
    refine WP_ops ?_
    refine WO_mv (v := .s (.int _ _)) rfl ?_
    refine WO_bin (r := .bool true) rfl rfl (rfl) ?_
    refine WO_mv (v := .s (.bool _)) rfl ?_
    refine WO_gt rfl ?_
    refine WO_mv (v := .s _) rfl ?_
    refine WO_gt rfl ?_
    refine WO_mv (v := .s _) rfl ?_
    refine WO_gt rfl ?_
    refine WO_bin (r := .bool true) rfl rfl (by show some (S.bool (_ == _)) = _; rw [beq_self_eq_true]) ?_
    refine WO_pick (v := .s (.bool _)) rfl rfl ?_
    refine WO_mv (v := .s (.bool _)) rfl ?_
    refine WO_gt rfl ?_
    first | refine WO_ldA0 rfl rfl (.head _) ?_ | refine WO_ldAI rfl rfl (.head _) ?_
    refine WO_gt rfl ?_
    refine WO_call0 rfl (right_back hA hRR) rfl rfl rfl ?_
    refine WO_pick (v := .s (.bool _)) rfl rfl ?_
    refine WO_mv (v := .s (.bool _)) rfl ?_
    refine WO_nil ?_
    refine WP_ret ?_
    refine ⟨_, RS_tmp (v := .s (.bool _)) rfl (RS_nil), ?_⟩
    rfl
   ·skip
    have h0 : e ≠ 0 := by rcases he with h | h | h <;> omega
    refine WP_seq ?_
    refine WP_ops ?_
    refine WO_mv (v := .s _) rfl ?_
    refine WO_call0 rfl (parse_is hR) rfl rfl rfl ?_
    refine WO_mv (v := .tup _) rfl ?_
    refine WO_ext (v := .agg _ _) rfl rfl ?_
    refine WO_ext (v := .s (.int _ _)) rfl rfl ?_
    refine WO_ext (v := .s (.int _ _)) rfl rfl ?_
    refine WO_allocI ?_
    refine WO_stA rfl rfl rfl rfl .here ?_
    refine WO_mv (v := .s (.int _ _)) rfl ?_
    refine WO_mv (v := .s (.int _ _)) rfl ?_
    refine WO_nil ?_
    refine WP_seq ?_
    refine WP_seq ?_
    refine WP_ops ?_
    refine WO_mv (v := .s (.int _ _)) rfl ?_
    refine WO_bin (r := .bool true) rfl rfl (by show some (S.bool (_ != _)) = _; rw [show ((e != 0) = true) from bne_iff_ne.2 h0]) ?_
    refine WO_nil ?_
    refine WP_cond rfl (fun _ => ?_) (fun h => nomatch h)
    refine WP_seq ?_
    refine WP_ops ?_
    first | refine WO_ldA0 rfl rfl (.head _) ?_ | refine WO_ldAI rfl rfl (.head _) ?_
    refine WO_buildI rfl .nil ?_
    refine WO_eqaC rfl rfl (eq_zero) ?_
    refine WO_mv (v := .s (.bool _)) rfl ?_
    refine WO_gt rfl ?_
    refine WO_mv (v := .s (.int _ _)) rfl ?_
    refine WO_gt rfl ?_
    refine WO_bin (r := .bool true) rfl rfl (by show some (S.bool (decide ((k : Int) ≥ 0))) = _; rw [decide_eq_true (by omega)]) ?_
    refine WO_pick (v := .s (.bool _)) rfl rfl ?_
    refine WO_mv (v := .s (.bool _)) rfl ?_
    refine WO_gt rfl ?_
    refine WO_mv (v := .s (.int _ _)) rfl ?_
    refine WO_gt rfl ?_
    refine WO_mv (v := .s _) rfl ?_
    refine WO_gt rfl ?_
    refine WO_lenS rfl ?_
    refine WO_gt rfl ?_
    refine WO_bin (r := .bool true) rfl rfl (by show some (S.bool (decide ((k : Int) ≤ (s.size : Int)))) = _; rw [decide_eq_true (by omega)]) ?_
    refine WO_pick (v := .s (.bool _)) rfl rfl ?_
    refine WO_mv (v := .s (.bool _)) rfl ?_
    refine WO_gt rfl ?_
    refine WO_mv (v := .s (.int _ _)) rfl ?_
    refine WO_gt rfl ?_
    refine WO_bin (r := .bool _) rfl rfl rfl ?_
    refine WO_gt rfl ?_
    refine WO_mv (v := .s (.bool _)) rfl ?_
    refine WO_case (t := 110) rfl (fun h13 => ?_) (fun h13 => ?_)
    ·try simp only [NM] at h13
     refine WO_gf rfl rfl ?_
     refine WO_gf rfl rfl ?_
     refine WO_gt rfl ?_
     refine WO_pick (v := .s (.bool _)) rfl rfl ?_
     refine WO_pick (v := .s (.bool _)) rfl rfl ?_
     refine WO_mv (v := .s (.bool _)) rfl ?_
     refine WO_nil ?_
     refine WP_ret ?_
     refine ⟨_, RS_tmp (v := .s (.bool _)) rfl (RS_nil), ?_⟩
     rfl
    ·try simp only [NM] at h13
     refine WO_gt rfl ?_
     refine WO_mv (v := .s (.int _ _)) rfl ?_
     refine WO_gt rfl ?_
     refine WO_bin (r := .bool true) rfl rfl (by show some (S.bool (_ == _)) = _; rw [show k = 0 by rcases he with h | h | h <;> omega]; rfl) ?_
     refine WO_gt rfl ?_
     refine WO_pick (v := .s (.bool _)) rfl rfl ?_
     refine WO_pick (v := .s (.bool _)) rfl rfl ?_
     refine WO_mv (v := .s (.bool _)) rfl ?_
     refine WO_nil ?_
     refine WP_ret ?_
     refine ⟨_, RS_tmp (v := .s (.bool _)) rfl (RS_nil), ?_⟩
     rfl
theorem Back_ff (P Q : Nat → Int) (s : ByteArray) (hP : rightM P = false) (hQ : rightM Q = false) (zP : ∀ i, 133 ≤ i → P i = 0) (zQ : ∀ i, 133 ≤ i → Q i = 0) (hsz : s.size ≤ 9223372036854775807) : WR AM2 4 [.agg 133 (ia P), .agg 133 (ia Q), .s (.str s)] [] (fun v _ _ => v = .s (.bool true)) := by
 have hs := hsz
 refine WR_fn (a := a4) rfl rfl (entryF _) (entry_E (Nat.le_of_ble_eq_true rfl)) (m := 0) rfl ?_
 refine WP_seq ?_
 refine WP_ops ?_
 refine WO_boxA rfl ?_
 refine WO_boxA rfl ?_
 refine WO_mv rfl ?_
 refine WO_nil ?_
 refine WP_seq ?_
 refine WP_seq ?_
 refine WP_ops ?_
 refine WO_call0 rfl (awake_run) rfl rfl rfl ?_
 refine WO_un (r := .bool _) rfl rfl ?_
 refine WO_nil ?_
 refine WP_cond rfl (fun h => nomatch h) (fun _ => ?_)
 refine WP_skip ?_
 refine WP_seq ?_
 refine WP_seq ?_
 refine WP_ops ?_
 refine WO_mv (v := .s _) rfl ?_
 refine WO_lenS rfl ?_
 refine WO_bin (r := .bool _) rfl rfl rfl ?_
 refine WO_nil ?_
 refine WP_cond rfl (fun h4 => ?_) (fun h4 => ?_)
 ·try simp only [NM] at h4
  refine WP_seq ?_
  refine WP_ops ?_
  refine WO_mv rfl ?_
  refine WO_nil ?_
  refine WP_ret ?_
  refine ⟨_, RS_tmp (v := .s (.bool _)) rfl (RS_nil), ?_⟩
  rfl
 ·try simp only [NM] at h4
  refine WP_skip ?_
  refine WP_seq ?_
  refine WP_ops ?_
  first | refine WO_ldA0 rfl rfl (.tail _ (.head _)) ?_ | refine WO_ldAI rfl rfl (.tail _ (.head _)) ?_
  refine WO_call0 rfl (show_not hP) rfl rfl rfl ?_
  refine WO_mv (v := .tup _) rfl ?_
  refine WO_ext (v := .s _) rfl rfl ?_
  refine WO_ext (v := .s (.int _ _)) rfl rfl ?_
  refine WO_mv (v := .s _) rfl ?_
  refine WO_mv (v := .s (.int _ _)) rfl ?_
  refine WO_nil ?_
  refine WP_seq ?_
  refine WP_ops ?_
  first | refine WO_ldA0 rfl rfl (.head _) ?_ | refine WO_ldAI rfl rfl (.head _) ?_
  refine WO_call0 rfl (show_not hQ) rfl rfl rfl ?_
  refine WO_mv (v := .tup _) rfl ?_
  refine WO_ext (v := .s _) rfl rfl ?_
  refine WO_ext (v := .s (.int _ _)) rfl rfl ?_
  refine WO_mv (v := .s _) rfl ?_
  refine WO_mv (v := .s (.int _ _)) rfl ?_
  refine WO_nil ?_
  refine WP_seq ?_
  refine WP_seq ?_
  refine WP_ops ?_
  refine WO_mv (v := .s (.int _ _)) rfl ?_
  refine WO_bin (r := .bool false) rfl rfl (rfl) ?_
  first | refine WO_ldA0 rfl rfl (.tail _ (.head _)) ?_ | refine WO_ldAI rfl rfl (.tail _ (.head _)) ?_
  refine WO_call0 rfl (right_is2 hP) rfl rfl rfl ?_
  refine WO_eqbF rfl rfl (rfl) ?_
  refine WO_mv (v := .s (.bool _)) rfl ?_
  refine WO_gt rfl ?_
  refine WO_mv (v := .s (.int _ _)) rfl ?_
  refine WO_gt rfl ?_
  refine WO_bin (r := .bool true) rfl rfl (rfl) ?_
  refine WO_gt rfl ?_
  refine WO_mv (v := .s (.bool _)) rfl ?_
  refine WO_gt rfl ?_
  refine WO_mv (v := .s _) rfl ?_
  refine WO_gt rfl ?_
  refine WO_bin (r := .bool false) rfl rfl (by show some (S.bool (!(_ == _))) = _; rw [beq_self_eq_true]; rfl) ?_
  refine WO_gt rfl ?_
  refine WO_mv (v := .s (.bool _)) rfl ?_
  refine WO_gt rfl ?_
  refine WO_mv (v := .s (.int _ _)) rfl ?_
  refine WO_gt rfl ?_
  refine WO_bin (r := .bool false) rfl rfl (rfl) ?_
  refine WO_gt rfl ?_
  refine WO_pick (v := .s (.bool _)) rfl rfl ?_
  refine WO_gt rfl ?_
  refine WO_pick (v := .s (.bool _)) rfl rfl ?_
  refine WO_pick (v := .s (.bool _)) rfl rfl ?_
  refine WO_nil ?_
  refine WP_cond rfl (fun h => nomatch h) (fun _ => ?_)
  refine WP_skip ?_
  refine WP_seq ?_
  refine WP_seq ?_
  refine WP_ops ?_
  refine WO_mv (v := .s (.int _ _)) rfl ?_
  refine WO_bin (r := .bool false) rfl rfl (rfl) ?_
  refine WO_nil ?_
  refine WP_cond rfl (fun h => nomatch h) (fun _ => ?_)
  refine WP_skip ?_
  refine WP_cut (fun f n L => f 2 = .s (.str s)) ?_ (fun f nb L hI => ?_)
  ·skip
   refine WP_seq ?_
   refine WP_ops ?_
   refine WO_mv (v := .s (.int _ _)) rfl ?_
   refine WO_bin (r := .bool false) rfl rfl (rfl) ?_
   refine WO_mv (v := .s (.bool _)) rfl ?_
   refine WO_gf rfl rfl ?_
   refine WO_gf rfl rfl ?_
   refine WO_pick (v := .s (.bool _)) rfl rfl ?_
   refine WO_mv (v := .s (.bool _)) rfl ?_
   refine WO_gf rfl rfl ?_
   refine WO_gf rfl rfl ?_
   refine WO_gf rfl rfl ?_
   refine WO_gf rfl rfl ?_
   refine WO_gf rfl rfl ?_
   refine WO_gf rfl rfl ?_
   refine WO_gf rfl rfl ?_
   refine WO_pick (v := .s (.bool _)) rfl rfl ?_
   refine WO_nil ?_
   refine WP_cond rfl (fun h => nomatch h) (fun _ => ?_)
   refine WP_skip ?_
   exact ⟨_, .refl _, rfl⟩
  ·skip
   refine WP_know (d := 2) (v := .s (.str s)) hI ?_
   clear hI hs
   refine WP_sub (L' := []) (List.nil_sublist _) ?_
   rcases parse_ends s with ⟨R, hR, hA, hRR⟩ | ⟨k, e, hR, hk, he⟩
   ·skip
    have zR := parse_out hA
    refine WP_seq ?_
    refine WP_ops ?_
    refine WO_mv (v := .s _) rfl ?_
    refine WO_call0 rfl (parse_is hR) rfl rfl rfl ?_
    refine WO_mv (v := .tup _) rfl ?_
    refine WO_ext (v := .agg _ _) rfl rfl ?_
    refine WO_ext (v := .s (.int _ _)) rfl rfl ?_
    refine WO_ext (v := .s (.int _ _)) rfl rfl ?_
    refine WO_allocI ?_
    refine WO_stA rfl rfl rfl rfl .here ?_
    refine WO_mv (v := .s (.int _ _)) rfl ?_
    refine WO_mv (v := .s (.int _ _)) rfl ?_
    refine WO_nil ?_
    refine WP_seq ?_
    refine WP_seq ?_
    refine WP_ops ?_
    refine WO_mv (v := .s (.int _ _)) rfl ?_
    refine WO_bin (r := .bool false) rfl rfl (rfl) ?_
    refine WO_nil ?_
    refine WP_cond rfl (fun h => nomatch h) (fun _ => ?_)
    refine WP_skip ?_
    refine WP_seq ?_
    refine WP_ops ?_
    first | refine WO_ldA0 rfl rfl (.head _) ?_ | refine WO_ldAI rfl rfl (.head _) ?_
    refine WO_call0 rfl (show_back hA hRR) rfl rfl rfl ?_
    refine WO_mv (v := .tup _) rfl ?_
    refine WO_ext (v := .s _) rfl rfl ?_
    refine WO_ext (v := .s (.int _ _)) rfl rfl ?_
    refine WO_mv (v := .s _) rfl ?_
    refine WO_mv (v := .s (.int _ _)) rfl ?_
    refine WO_nil ?_
    refine WP_seq ?_
    refine WP_ops ?_
    refine WO_mv (v := .s (.int _ _)) rfl ?_
    refine WO_bin (r := .bool true) rfl rfl (rfl) ?_
    refine WO_mv (v := .s (.bool _)) rfl ?_
    refine WO_gt rfl ?_
    refine WO_mv (v := .s _) rfl ?_
    refine WO_gt rfl ?_
    refine WO_mv (v := .s _) rfl ?_
    refine WO_gt rfl ?_
    refine WO_bin (r := .bool true) rfl rfl (by show some (S.bool (_ == _)) = _; rw [beq_self_eq_true]) ?_
    refine WO_pick (v := .s (.bool _)) rfl rfl ?_
    refine WO_mv (v := .s (.bool _)) rfl ?_
    refine WO_gt rfl ?_
    first | refine WO_ldA0 rfl rfl (.head _) ?_ | refine WO_ldAI rfl rfl (.head _) ?_
    refine WO_gt rfl ?_
    refine WO_call0 rfl (right_back hA hRR) rfl rfl rfl ?_
    refine WO_pick (v := .s (.bool _)) rfl rfl ?_
    refine WO_mv (v := .s (.bool _)) rfl ?_
    refine WO_nil ?_
    refine WP_ret ?_
    refine ⟨_, RS_tmp (v := .s (.bool _)) rfl (RS_nil), ?_⟩
    rfl
   ·skip
    have h0 : e ≠ 0 := by rcases he with h | h | h <;> omega
    refine WP_seq ?_
    refine WP_ops ?_
    refine WO_mv (v := .s _) rfl ?_
    refine WO_call0 rfl (parse_is hR) rfl rfl rfl ?_
    refine WO_mv (v := .tup _) rfl ?_
    refine WO_ext (v := .agg _ _) rfl rfl ?_
    refine WO_ext (v := .s (.int _ _)) rfl rfl ?_
    refine WO_ext (v := .s (.int _ _)) rfl rfl ?_
    refine WO_allocI ?_
    refine WO_stA rfl rfl rfl rfl .here ?_
    refine WO_mv (v := .s (.int _ _)) rfl ?_
    refine WO_mv (v := .s (.int _ _)) rfl ?_
    refine WO_nil ?_
    refine WP_seq ?_
    refine WP_seq ?_
    refine WP_ops ?_
    refine WO_mv (v := .s (.int _ _)) rfl ?_
    refine WO_bin (r := .bool true) rfl rfl (by show some (S.bool (_ != _)) = _; rw [show ((e != 0) = true) from bne_iff_ne.2 h0]) ?_
    refine WO_nil ?_
    refine WP_cond rfl (fun _ => ?_) (fun h => nomatch h)
    refine WP_seq ?_
    refine WP_ops ?_
    first | refine WO_ldA0 rfl rfl (.head _) ?_ | refine WO_ldAI rfl rfl (.head _) ?_
    refine WO_buildI rfl .nil ?_
    refine WO_eqaC rfl rfl (eq_zero) ?_
    refine WO_mv (v := .s (.bool _)) rfl ?_
    refine WO_gt rfl ?_
    refine WO_mv (v := .s (.int _ _)) rfl ?_
    refine WO_gt rfl ?_
    refine WO_bin (r := .bool true) rfl rfl (by show some (S.bool (decide ((k : Int) ≥ 0))) = _; rw [decide_eq_true (by omega)]) ?_
    refine WO_pick (v := .s (.bool _)) rfl rfl ?_
    refine WO_mv (v := .s (.bool _)) rfl ?_
    refine WO_gt rfl ?_
    refine WO_mv (v := .s (.int _ _)) rfl ?_
    refine WO_gt rfl ?_
    refine WO_mv (v := .s _) rfl ?_
    refine WO_gt rfl ?_
    refine WO_lenS rfl ?_
    refine WO_gt rfl ?_
    refine WO_bin (r := .bool true) rfl rfl (by show some (S.bool (decide ((k : Int) ≤ (s.size : Int)))) = _; rw [decide_eq_true (by omega)]) ?_
    refine WO_pick (v := .s (.bool _)) rfl rfl ?_
    refine WO_mv (v := .s (.bool _)) rfl ?_
    refine WO_gt rfl ?_
    refine WO_mv (v := .s (.int _ _)) rfl ?_
    refine WO_gt rfl ?_
    refine WO_bin (r := .bool _) rfl rfl rfl ?_
    refine WO_gt rfl ?_
    refine WO_mv (v := .s (.bool _)) rfl ?_
    refine WO_case (t := 110) rfl (fun h13 => ?_) (fun h13 => ?_)
    ·try simp only [NM] at h13
     refine WO_gf rfl rfl ?_
     refine WO_gf rfl rfl ?_
     refine WO_gt rfl ?_
     refine WO_pick (v := .s (.bool _)) rfl rfl ?_
     refine WO_pick (v := .s (.bool _)) rfl rfl ?_
     refine WO_mv (v := .s (.bool _)) rfl ?_
     refine WO_nil ?_
     refine WP_ret ?_
     refine ⟨_, RS_tmp (v := .s (.bool _)) rfl (RS_nil), ?_⟩
     rfl
    ·try simp only [NM] at h13
     refine WO_gt rfl ?_
     refine WO_mv (v := .s (.int _ _)) rfl ?_
     refine WO_gt rfl ?_
     refine WO_bin (r := .bool true) rfl rfl (by show some (S.bool (_ == _)) = _; rw [show k = 0 by rcases he with h | h | h <;> omega]; rfl) ?_
     refine WO_gt rfl ?_
     refine WO_pick (v := .s (.bool _)) rfl rfl ?_
     refine WO_pick (v := .s (.bool _)) rfl rfl ?_
     refine WO_mv (v := .s (.bool _)) rfl ?_
     refine WO_nil ?_
     refine WP_ret ?_
     refine ⟨_, RS_tmp (v := .s (.bool _)) rfl (RS_nil), ?_⟩
     rfl
theorem Back_run (P Q : Nat → Int) (s : ByteArray) (zP : ∀ i, 133 ≤ i → P i = 0) (zQ : ∀ i, 133 ≤ i → Q i = 0) (hsz : s.size ≤ 9223372036854775807) : RF AM2 4 [.agg 133 (ia P), .agg 133 (ia Q), .s (.str s)] (.s (.bool true)) := by
  cases hP : rightM P <;> cases hQ : rightM Q
  · exact RF_of (Back_ff P Q s hP hQ zP zQ hsz)
  · exact RF_of (Back_ft P Q s hP hQ zP zQ hsz)
  · exact RF_of (Back_tf P Q s hP hQ zP zQ hsz)
  · exact RF_of (Back_tt P Q s hP hQ zP zQ hsz)
end Go.Proofs.YtlaogmemhephnaaDoor
