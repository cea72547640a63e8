/- Texts of this seat, joined. -/
import Derived.Test.YtjldefmcnppdoaaChecked
import Derived.Lib.Strings
import Derived.Lib.Slices
import Derived.Lib.Walk
import Derived.Lib.Bytealg
import Derived.Test.YtjldefmcnppdoaaM0
/- The plain law of BoardTurns, and its walk. -/
namespace Go.Proofs.Ytjldefmcnppdoaa
open Go Go.Am
set_option linter.unusedSimpArgs false
set_option linter.unusedVariables false
/-- A sum over the first n squares. -/
def sumB (g : Nat → Int) : Nat → Int
  | 0 => 0
  | n + 1 => sumB g n + g n
theorem sumB_same {g h : Nat → Int} : ∀ (n : Nat), (∀ s, s < n → g s = h s) → sumB g n = sumB h n
  | 0, _ => rfl
  | n + 1, e => by
    show sumB g n + g n = sumB h n + h n
    rw [sumB_same n (fun s hs => e s (by omega)), e n (by omega)]
theorem sumB_acr (f : Nat → Int) : sumB (fun s => f (acr s)) 64 = sumB f 64 := by
  show ((((((((((((((((((((((((((((((((((((((((((((((((((((((((((((((((0 + f 56) + f 57) + f 58) + f 59) + f 60) + f 61) + f 62) + f 63) + f 48) + f 49) + f 50) + f 51) + f 52) + f 53) + f 54) + f 55) + f 40) + f 41) + f 42) + f 43) + f 44) + f 45) + f 46) + f 47) + f 32) + f 33) + f 34) + f 35) + f 36) + f 37) + f 38) + f 39) + f 24) + f 25) + f 26) + f 27) + f 28) + f 29) + f 30) + f 31) + f 16) + f 17) + f 18) + f 19) + f 20) + f 21) + f 22) + f 23) + f 8) + f 9) + f 10) + f 11) + f 12) + f 13) + f 14) + f 15) + f 0) + f 1) + f 2) + f 3) + f 4) + f 5) + f 6) + f 7) = ((((((((((((((((((((((((((((((((((((((((((((((((((((((((((((((((0 + f 0) + f 1) + f 2) + f 3) + f 4) + f 5) + f 6) + f 7) + f 8) + f 9) + f 10) + f 11) + f 12) + f 13) + f 14) + f 15) + f 16) + f 17) + f 18) + f 19) + f 20) + f 21) + f 22) + f 23) + f 24) + f 25) + f 26) + f 27) + f 28) + f 29) + f 30) + f 31) + f 32) + f 33) + f 34) + f 35) + f 36) + f 37) + f 38) + f 39) + f 40) + f 41) + f 42) + f 43) + f 44) + f 45) + f 46) + f 47) + f 48) + f 49) + f 50) + f 51) + f 52) + f 53) + f 54) + f 55) + f 56) + f 57) + f 58) + f 59) + f 60) + f 61) + f 62) + f 63)
  omega
theorem kM_sum (P : Nat → Int) (c : Int) : ∀ n : Nat, kM P c n = sumB (fun s => if P (s * 2) = 6 ∧ P (s * 2 + 1) = c then 1 else 0) n
  | 0 => rfl
  | n + 1 => by
    show kM P c n + (if P (0 + (n : Int).toNat * 2) = 6 ∧ P (0 + (n : Int).toNat * 2 + 1) = c then 1 else 0) = sumB _ n + (if P (n * 2) = 6 ∧ P (n * 2 + 1) = c then 1 else 0)
    rw [kM_sum P c n, show 0 + (n : Int).toNat * 2 = n * 2 by omega]
theorem lst_sum (S1 : Nat → Bool) : ∀ n : Nat, ((lstM S1 n).1 : Int) = sumB (fun s => if S1 s = true then 1 else 0) n
  | 0 => rfl
  | n + 1 => by
    show _ = sumB _ n + (if S1 n = true then 1 else 0)
    cases h : S1 n with
    | true => rw [lst_yes h, if_pos rfl, ← lst_sum S1 n]; show (((lstM S1 n).1 + 1 : Nat) : Int) = _; omega
    | false => rw [lst_no h, if_neg (by decide), ← lst_sum S1 n]; omega
theorem lst_at {S1 : Nat → Bool} : ∀ (n j : Nat), j < (lstM S1 n).1 → ∃ s : Nat, s < n ∧ (lstM S1 n).2 j = s ∧ S1 s = true
  | 0, j, h => by cases h
  | n + 1, j, h => by
    cases hn : S1 n with
    | false =>
      rw [lst_no hn] at h ⊢
      obtain ⟨s, h1, h2, h3⟩ := lst_at n j h
      exact ⟨s, by omega, h2, h3⟩
    | true =>
      rw [lst_yes hn] at h ⊢
      by_cases c : j < (lstM S1 n).1
      · obtain ⟨s, h1, h2, h3⟩ := lst_at n j c
        exact ⟨s, by omega, by show (if j < (lstM S1 n).1 then _ else _) = _; rw [if_pos c]; exact h2, h3⟩
      · exact ⟨n, by omega, by show (if j < (lstM S1 n).1 then _ else _) = _; rw [if_neg c], hn⟩
theorem lst_lt {S1 : Nat → Bool} : ∀ (n i j : Nat), i < j → j < (lstM S1 n).1 → (lstM S1 n).2 i < (lstM S1 n).2 j
  | 0, i, j, _, h => by cases h
  | n + 1, i, j, hij, h => by
    cases hn : S1 n with
    | false => rw [lst_no hn] at h ⊢; exact lst_lt n i j hij h
    | true =>
      rw [lst_yes hn] at h ⊢
      have h' : j < (lstM S1 n).1 + 1 := h
      show (if i < (lstM S1 n).1 then _ else _) < (if j < (lstM S1 n).1 then _ else _)
      rw [if_pos (show i < (lstM S1 n).1 by omega)]
      by_cases c : j < (lstM S1 n).1
      · rw [if_pos c]; exact lst_lt n i j hij c
      · rw [if_neg c]
        obtain ⟨s, h1, h2, _⟩ := lst_at (S1 := S1) n i (by omega)
        rw [h2]; omega
/-- All pieces may be, or are none. -/
def Clean (P : Nat → Int) : Prop := ∀ s : Nat, s < 64 → (P (s * 2) = 0 ∧ P (s * 2 + 1) = 0) ∨ (1 ≤ P (s * 2) ∧ P (s * 2) ≤ 6 ∧ (P (s * 2 + 1) = 0 ∨ P (s * 2 + 1) = 1))
theorem sqI_nat (s : Nat) : sqI (s : Int) = s * 2 := by show 0 + (s : Int).toNat * 2 = _; omega
theorem clean_of {P : Nat → Int} (h : ∀ s : Nat, s < 64 → (P (sqI s) = 0 ∧ P (sqI s + 1) = 0) ∨ mayM (P (sqI s)) (P (sqI s + 1)) = true) : Clean P := fun s hs => by
  have := h s hs
  rw [sqI_nat] at this
  rcases this with h | h
  · exact .inl h
  · have h := of_decide_eq_true h
    exact .inr h
theorem cell_turn {P Q : Nat → Int} (T : TurnOf P Q) (hP : Clean P) {s : Nat} (hs : s < 64) : Q (acr s * 2) = P (s * 2) ∧ ((P (s * 2) = 0 ∧ P (s * 2 + 1) = 0 ∧ Q (acr s * 2 + 1) = 0) ∨ ((1 ≤ P (s * 2) ∧ P (s * 2) ≤ 6 ∧ (P (s * 2 + 1) = 0 ∨ P (s * 2 + 1) = 1)) ∧ Q (acr s * 2 + 1) = 1 - P (s * 2 + 1))) := by
  obtain ⟨h1, h2⟩ := T.sq s hs
  refine ⟨h1, ?_⟩
  rcases hP s hs with h | h
  · refine .inl ⟨h.1, h.2, ?_⟩
    rw [h2, sideT, if_neg (by rw [mayM, decide_eq_false (by omega)]; decide)]; exact h.2
  · refine .inr ⟨h, ?_⟩
    rw [h2, sideT, if_pos (show mayM _ _ = true from decide_eq_true h)]
    unfold otherM; split <;> omega
theorem acr_acr2 {s : Nat} (h : s < 64) : acr (acr s) = s := by unfold acr; omega
theorem turn_back {P Q R : Nat → Int} (T : TurnOf P Q) (U : TurnOf Q R) (hP : Clean P) (hs : P 128 = 0 ∨ P 128 = 1) : ∀ i, i < 133 → R i = P i := by
  intro i hi
  by_cases a : i < 128
  · have hl := acr_lt (s := i / 2) (by omega)
    obtain ⟨u1, u2⟩ := U.sq (acr (i / 2)) hl
    obtain ⟨t1, t2⟩ := cell_turn T hP (s := i / 2) (by omega)
    rw [acr_acr2 (by omega)] at u1 u2
    by_cases e : i % 2 = 0
    · rw [show i = i / 2 * 2 by omega, u1, t1]
    · rw [show i = i / 2 * 2 + 1 by omega, u2, t1]
      rcases t2 with ⟨h0, h1, h2⟩ | ⟨h0, h2⟩
      · rw [h2, h1, h0, sideT, if_neg (by decide)]
      · rw [sideT, if_pos (show mayM _ _ = true from decide_eq_true ⟨h0.1, h0.2.1, by omega⟩), h2]
        unfold otherM; split <;> omega
  · have : i = 128 ∨ i = 129 ∨ i = 130 ∨ i = 131 ∨ i = 132 := by omega
    rcases this with rfl | rfl | rfl | rfl | rfl
    · rw [U.side, T.side]; unfold otherM; split <;> split <;> omega
    · rw [U.castle, T.castle]; unfold castT; split <;> (try split) <;> omega
    · rw [U.over, T.over]; unfold overT
      by_cases h : isM (P 130) = true
      · have h' := of_decide_eq_true h
        rw [if_pos h, if_pos (show isM (acrossM (P 130)) = true from decide_eq_true (by unfold acrossM; omega))]
        unfold acrossM; omega
      · rw [if_neg h, if_neg h]
    · rw [U.half, T.half]
    · rw [U.full, T.full]
theorem ok_turn {P Q : Nat → Int} (T : TurnOf P Q) (hP : Clean P) : (∀ s : Nat, s < 64 → okM Q s) ↔ (∀ s : Nat, s < 64 → okM P s) := by
  have one : ∀ s : Nat, s < 64 → (okM Q (acr s) ↔ okM P s) := fun s hs => by
    have hl := acr_lt hs
    obtain ⟨t1, t2⟩ := cell_turn T hP hs
    unfold okM
    rw [sqI_nat, sqI_nat, t1]
    have e : (acr s < 8 ∨ 56 ≤ acr s) ↔ (s < 8 ∨ 56 ≤ s) := by unfold acr; omega
    rw [e]
    omega
  constructor
  · intro h s hs; exact (one s hs).1 (h _ (acr_lt hs))
  · intro h s hs
    have := (one (acr s) (acr_lt hs)).2 (h _ (acr_lt hs))
    rwa [acr_acr2 hs] at this
theorem kings_turn {P Q : Nat → Int} (T : TurnOf P Q) (hP : Clean P) {c : Int} (hc : c = 0 ∨ c = 1) : kM Q c 64 = kM P (1 - c) 64 := by
  rw [kM_sum, kM_sum, ← sumB_acr]
  refine sumB_same 64 fun s hs => ?_
  obtain ⟨t1, t2⟩ := cell_turn T hP hs
  show (if Q (acr s * 2) = 6 ∧ Q (acr s * 2 + 1) = c then (1 : Int) else 0) = (if P (s * 2) = 6 ∧ P (s * 2 + 1) = 1 - c then 1 else 0)
  rw [t1]
  by_cases h : P (s * 2) = 6 ∧ P (s * 2 + 1) = 1 - c
  · rw [if_pos h, if_pos (by omega)]
  · rw [if_neg h, if_neg (by omega)]
theorem stand_turn {P Q : Nat → Int} (T : TurnOf P Q) (hP : Clean P) {s : Nat} (hs : s < 64) {k c c' : Int} (hk : (k = 0 ∧ c = 0 ∧ c' = 0) ∨ (1 ≤ k ∧ (c = 0 ∨ c = 1) ∧ c' = 1 - c)) : (Q (acr s * 2) = k ∧ Q (acr s * 2 + 1) = c') ↔ (P (s * 2) = k ∧ P (s * 2 + 1) = c) := by
  obtain ⟨t1, t2⟩ := cell_turn T hP hs
  rw [t1]
  omega
theorem home_turn {P Q : Nat → Int} (T : TurnOf P Q) (hP : Clean P) {c : Int} (hc : c = 0 ∨ c = 1) {a b : Nat} (ha : a < 64) (hb : b < 64) {x y : Int} (hx : x = (acr a : Nat)) (hy : y = (acr b : Nat)) : (homeM Q (1 - c) x y = true) ↔ (homeM P c a b = true) := by
  subst hx; subst hy
  unfold homeM
  rw [sqI_nat, sqI_nat, sqI_nat, sqI_nat, decide_eq_true_eq, decide_eq_true_eq]
  have h1 := stand_turn T hP ha (k := 6) (c := c) (c' := 1 - c) (.inr ⟨by omega, hc, rfl⟩)
  have h2 := stand_turn T hP hb (k := 4) (c := c) (c' := 1 - c) (.inr ⟨by omega, hc, rfl⟩)
  constructor
  · rintro ⟨a1, a2, a3, a4⟩
    have := h1.1 ⟨a1, a2⟩; have := h2.1 ⟨a3, a4⟩
    exact ⟨by omega, by omega, by omega, by omega⟩
  · rintro ⟨a1, a2, a3, a4⟩
    have := h1.2 ⟨a1, a2⟩; have := h2.2 ⟨a3, a4⟩
    exact ⟨by omega, by omega, by omega, by omega⟩
theorem castles_turn {P Q : Nat → Int} (T : TurnOf P Q) (hP : Clean P) : castlesM Q = castlesM P := by
  unfold castlesM
  have w1 := home_turn T hP (c := 0) (.inl rfl) (a := 4) (b := 7) (by omega) (by omega) (x := 60) (y := 63) rfl rfl
  have w2 := home_turn T hP (c := 0) (.inl rfl) (a := 4) (b := 0) (by omega) (by omega) (x := 60) (y := 56) rfl rfl
  have b1 := home_turn T hP (c := 1) (.inr rfl) (a := 60) (b := 63) (by omega) (by omega) (x := 4) (y := 7) rfl rfl
  have b2 := home_turn T hP (c := 1) (.inr rfl) (a := 60) (b := 56) (by omega) (by omega) (x := 4) (y := 0) rfl rfl
  have w1' : homeM Q 1 60 63 = true ↔ homeM P 0 4 7 = true := w1
  have w2' : homeM Q 1 60 56 = true ↔ homeM P 0 4 0 = true := w2
  have b1' : homeM Q 0 4 7 = true ↔ homeM P 1 60 63 = true := b1
  have b2' : homeM Q 0 4 0 = true ↔ homeM P 1 60 56 = true := b2
  rw [Bool.eq_iff_iff, decide_eq_true_eq, decide_eq_true_eq, w1', w2', b1', b2', T.castle]
  generalize (homeM P 0 4 7 = true) = h1
  generalize (homeM P 0 4 0 = true) = h2
  generalize (homeM P 1 60 63 = true) = h3
  generalize (homeM P 1 60 56 = true) = h4
  generalize P 129 = c
  unfold castT
  by_cases hc : 0 ≤ c ∧ c ≤ 15
  · rw [if_pos hc]
    have e1 : (c / 4 + c % 4 * 4) % 2 = 0 ↔ c / 4 % 2 = 0 := by omega
    have e2 : (c / 4 + c % 4 * 4) / 2 % 2 = 0 ↔ c / 8 = 0 := by omega
    have e3 : (c / 4 + c % 4 * 4) / 4 % 2 = 0 ↔ c % 2 = 0 := by omega
    have e4 : (c / 4 + c % 4 * 4) / 8 = 0 ↔ c / 2 % 2 = 0 := by omega
    rw [e1, e2, e3, e4]
    constructor
    · rintro ⟨_, a1, a2, a3, a4⟩; exact ⟨hc, a3, a4, a1, a2⟩
    · rintro ⟨_, a1, a2, a3, a4⟩; exact ⟨by omega, a3, a4, a1, a2⟩
  · rw [if_neg hc]
    constructor
    · rintro ⟨a, _⟩; exact absurd a hc
    · rintro ⟨a, _⟩; exact absurd a hc
theorem over_ok_turn {P Q : Nat → Int} (T : TurnOf P Q) (hP : Clean P) (hs : P 128 = 0 ∨ P 128 = 1) : overOK Q = overOK P := by
  unfold overOK
  rw [Bool.eq_iff_iff, decide_eq_true_eq, decide_eq_true_eq, T.half, T.side, T.over]
  unfold overT
  by_cases h : 0 ≤ P 130 ∧ P 130 < 64
  · rw [if_pos (show isM (P 130) = true from decide_eq_true h)]
    obtain ⟨x, hx⟩ : ∃ x : Nat, P 130 = x := ⟨(P 130).toNat, by omega⟩
    rw [hx] at h ⊢
    have hxx : x < 64 := by omega
    have hac : acrossM (x : Int) = (acr x : Nat) := by unfold acrossM acr; omega
    have hal := acr_lt hxx
    have ho : otherM (P 128) = 1 - P 128 := by unfold otherM; split <;> omega
    have st : ∀ (s : Nat) (k c c' : Int), s < 64 → ((k = 0 ∧ c = 0 ∧ c' = 0) ∨ (1 ≤ k ∧ (c = 0 ∨ c = 1) ∧ c' = 1 - c)) → ((standM Q (acr s : Nat) k c' = true) ↔ (standM P (s : Nat) k c = true)) := fun s k c c' hs hk => by
      unfold standM
      rw [sqI_nat, sqI_nat, decide_eq_true_eq, decide_eq_true_eq]
      exact stand_turn T hP hs hk
    rw [hac, ho]
    have hz := st x 0 0 0 hxx (.inl ⟨rfl, rfl, rfl⟩)
    rw [hz]
    by_cases r2 : x / 8 = 2
    · have e1 : ((acr x : Nat) : Int) + 8 = (acr (x - 8) : Nat) := by unfold acr; omega
      have e2 : ((acr x : Nat) : Int) - 8 = (acr (x + 8) : Nat) := by unfold acr; omega
      have e3 : (x : Int) - 8 = ((x - 8 : Nat) : Int) := by omega
      have e4 : (x : Int) + 8 = ((x + 8 : Nat) : Int) := by omega
      rw [e1, e2, e3, e4, st (x - 8) 0 0 0 (by omega) (.inl ⟨rfl, rfl, rfl⟩), st (x + 8) 1 0 1 (by omega) (.inr ⟨by omega, .inl rfl, rfl⟩)]
      have q1 : ((acr x : Nat) : Int) / 8 = 5 := by unfold acr; omega
      have q2 : (x : Int) / 8 = 2 := by omega
      rw [q1, q2]
      constructor
      · rintro (a | ⟨a, b, (⟨c1, c2, _⟩ | ⟨c1, _, c3, c4, c5⟩)⟩)
        · omega
        · omega
        · exact .inr ⟨h, b, .inl ⟨by omega, rfl, c3, c4, c5⟩⟩
      · rintro (a | ⟨a, b, (⟨c1, _, c3, c4, c5⟩ | ⟨c1, c2, _⟩)⟩)
        · omega
        · exact .inr ⟨by omega, b, .inr ⟨by omega, rfl, c3, c4, c5⟩⟩
        · omega
    · by_cases r5 : x / 8 = 5
      · have e1 : ((acr x : Nat) : Int) - 8 = (acr (x + 8) : Nat) := by unfold acr; omega
        have e2 : ((acr x : Nat) : Int) + 8 = (acr (x - 8) : Nat) := by unfold acr; omega
        have e3 : (x : Int) - 8 = ((x - 8 : Nat) : Int) := by omega
        have e4 : (x : Int) + 8 = ((x + 8 : Nat) : Int) := by omega
        rw [e1, e2, e3, e4, st (x + 8) 0 0 0 (by omega) (.inl ⟨rfl, rfl, rfl⟩), st (x - 8) 1 1 0 (by omega) (.inr ⟨by omega, .inr rfl, rfl⟩)]
        have q1 : ((acr x : Nat) : Int) / 8 = 2 := by unfold acr; omega
        have q2 : (x : Int) / 8 = 5 := by omega
        rw [q1, q2]
        constructor
        · rintro (a | ⟨a, b, (⟨c1, _, c3, c4, c5⟩ | ⟨c1, c2, _⟩)⟩)
          · omega
          · exact .inr ⟨h, b, .inr ⟨by omega, rfl, c3, c4, c5⟩⟩
          · omega
        · rintro (a | ⟨a, b, (⟨c1, c2, _⟩ | ⟨c1, _, c3, c4, c5⟩)⟩)
          · omega
          · omega
          · exact .inr ⟨by omega, b, .inl ⟨by omega, rfl, c3, c4, c5⟩⟩
      · have q1 : ¬ ((acr x : Nat) : Int) / 8 = 2 := by unfold acr; omega
        have q2 : ¬ ((acr x : Nat) : Int) / 8 = 5 := by unfold acr; omega
        constructor
        · rintro (a | ⟨a, b, (⟨_, c2, _⟩ | ⟨_, c2, _⟩)⟩)
          · omega
          · exact absurd c2 q1
          · exact absurd c2 q2
        · rintro (a | ⟨a, b, (⟨_, c2, _⟩ | ⟨_, c2, _⟩)⟩) <;> omega
  · rw [if_neg (show ¬ isM (P 130) = true from fun e => h (of_decide_eq_true e))]
    constructor
    · rintro (a | ⟨a, _⟩)
      · exact .inl a
      · exact absurd a h
    · rintro (a | ⟨a, _⟩)
      · exact .inl a
      · exact absurd a h
theorem right_turn {P Q : Nat → Int} (T : TurnOf P Q) (hP : Clean P) (hs : P 128 = 0 ∨ P 128 = 1) : rightM Q = rightM P := by
  have hp : piecesM Q = piecesM P := by
    unfold piecesM
    rw [Bool.eq_iff_iff, decide_eq_true_eq, decide_eq_true_eq, ok_turn T hP, kings_turn T hP (c := 0) (.inl rfl), kings_turn T hP (c := 1) (.inr rfl), T.side]
    have ho : otherM (P 128) = 1 - P 128 := by unfold otherM; split <;> omega
    rw [ho]
    constructor
    · rintro ⟨a, b, c, d⟩; exact ⟨a, c, b, hs⟩
    · rintro ⟨a, b, c, d⟩; exact ⟨a, c, b, by omega⟩
  unfold rightM
  rw [hp, castles_turn T hP, over_ok_turn T hP hs, T.half, T.full]
theorem right_no {P : Nat → Int} {i : Nat} (hi : i < 64) (h0 : ¬ (P (sqI i) = 0 ∧ P (sqI i + 1) = 0)) (hm : mayM (P (sqI i)) (P (sqI i + 1)) = false) : rightM P = false := by
  have : piecesM P = false := pieces_no fun q => by
    rcases q.1 i hi with h | h
    · exact h0 h
    · exact of_decide_eq_false hm ⟨h.1.1, h.1.2.1, h.1.2.2⟩
  unfold rightM
  rw [this]; rfl
theorem right_no2 {P : Nat → Int} (h0 : ¬ (P 128 = 0 ∨ P 128 = 1)) : rightM P = false := by
  have : piecesM P = false := pieces_no fun q => h0 q.2.2.2
  unfold rightM
  rw [this]; rfl
theorem st_turn {P Q X Y : Nat → Int} (T : TurnOf P Q) (hP : Clean P) (hX : 1 ≤ X 0 ∧ X 0 ≤ 6 ∧ (X 1 = 0 ∨ X 1 = 1)) (h0 : Y 0 = X 0) (h1 : Y 1 = otherM (X 1)) : ∀ s : Nat, s < 64 → stB Q Y (acr s) = stB P X s := fun s hs => by
  have ho : otherM (X 1) = 1 - X 1 := by unfold otherM; split <;> omega
  unfold stB standM
  rw [sqI_nat, sqI_nat, Bool.eq_iff_iff, decide_eq_true_eq, decide_eq_true_eq, h0, h1, ho]
  exact stand_turn T hP hs (.inr ⟨hX.1, hX.2.2, rfl⟩)
theorem cnt_turn {S1 S2 : Nat → Bool} (h : ∀ s : Nat, s < 64 → S2 (acr s) = S1 s) : (lstM S2 64).1 = (lstM S1 64).1 := by
  have e1 := lst_sum S1 64
  have e2 := lst_sum S2 64
  rw [← sumB_acr, sumB_same 64 (h := fun s => if S1 s = true then 1 else 0) (fun s hs => by show (if S2 (acr s) = true then (1 : Int) else 0) = _; rw [h s hs])] at e2
  omega
theorem two_lists {S1 S2 : Nat → Bool} {FA FB : Nat → Int} (hS : ∀ s : Nat, s < 64 → S2 (acr s) = S1 s) (hA : ∀ j : Nat, j < (lstM S1 64).1 → FA j = (lstM S1 64).2 j) (hB : ∀ j : Nat, j < (lstM S2 64).1 → FB j = (lstM S2 64).2 j) :
    (∀ i : Nat, i < (lstM S1 64).1 → 0 ≤ FA i ∧ FA i < 64) ∧ (∀ i j : Nat, i < j → j < (lstM S1 64).1 → FA i < FA j) ∧ (∀ i : Nat, i < (lstM S1 64).1 → ∃ j : Nat, j < (lstM S2 64).1 ∧ FB j = 8 * (7 - FA i / 8) + FA i % 8) := by
  refine ⟨fun i hi => ?_, fun i j hij hj => ?_, fun i hi => ?_⟩
  · obtain ⟨s, h1, h2, _⟩ := lst_at 64 i hi
    rw [hA i hi, h2]; omega
  · rw [hA i (by omega), hA j hj]; exact lst_lt 64 i j hij hj
  · obtain ⟨s, h1, h2, h3⟩ := lst_at 64 i hi
    obtain ⟨j, hj, h4⟩ := lst_mem (S1 := S2) 64 (acr s) (acr_lt h1) ((hS s h1).trans h3)
    refine ⟨j, hj, ?_⟩
    rw [hB j hj, h4, hA i hi, h2]
    unfold acr; omega
theorem TurnB_ex (P : Nat → Int) : ∃ Q, TurnOf P Q ∧ RF AM 53 [.agg 133 (ia P)] (.agg 133 (ia Q)) := by
  obtain ⟨v, σ, _, _, h, _, Q, hQ, rfl⟩ := Turn_run P
  exact ⟨Q, hQ, ⟨σ, h⟩⟩

theorem BoardTurns_run (P : Nat → Int) (x y : Int) : WR AM 11 [.agg 133 (ia P), .s (.int .i64 x), .s (.int .i64 y)] [] (fun v _ _ => v = .s (.bool true)) := by
 refine WR_fn (a := a11) rfl rfl (entryF _) (entry_E (Nat.le_of_ble_eq_true rfl)) (m := 0) rfl ?_
 refine WP_seq ?_
 refine WP_ops ?_
 refine WO_boxA rfl ?_
 refine WO_mv rfl ?_
 refine WO_nil ?_
 refine WP_seq ?_
 refine WP_seq ?_
 refine WP_ops ?_
 refine WO_call0 rfl (boAwake_run) rfl rfl rfl ?_
 refine WO_un (r := .bool _) rfl rfl ?_
 refine WO_nil ?_
 refine WP_cond rfl (fun h => nomatch h) (fun _ => ?_)
 refine WP_skip ?_
 refine WP_seq ?_
 refine WP_seq ?_
 refine WP_ops ?_
 refine WO_mv rfl ?_
 refine WO_nil ?_
 refine WP_block ?_
 refine WP_sub (L' := [_]) (.cons_cons _ .slnil) ?_
 refine WP_loop (fun m f _ L => ∃ (i : Nat), (i ≤ 64) ∧ (m = 64 - i) ∧ (∀ j : Nat, j < i → (P (sqI j) = 0 ∧ P (sqI j + 1) = 0) ∨ mayM (P (sqI j)) (P (sqI j + 1)) = true) ∧ (f 1 = .s (.int .i64 x)) ∧ (f 2 = .s (.int .i64 y)) ∧ (f 3 = .ptr 0 0 133) ∧ (f 7 = .s (.int .i64 i)) ∧ (L = [(0, .sc .var 133 (ia P))])) (fun m f nb L hI => ?_) (64) ⟨0, by omega, rfl, fun j h => by omega, rfl, rfl, rfl, rfl, rfl⟩
 obtain ⟨i, hi, hm, hn, k1, k2, k3, k7, rfl⟩ := hI
 refine WP_know (d := 1) (v := .s (.int .i64 x)) k1 ?_
 refine WP_know (d := 2) (v := .s (.int .i64 y)) k2 ?_
 refine WP_know (d := 3) (v := .ptr 0 0 133) k3 ?_
 refine WP_know (d := 7) (v := .s (.int .i64 i)) k7 ?_
 refine WP_seq ?_
 refine WP_seq ?_
 refine WP_ops ?_
 refine WO_mv (v := .s (.int _ _)) rfl ?_
 refine WO_bin (r := .bool _) rfl rfl rfl ?_
 refine WO_nil ?_
 refine WP_cond rfl (fun h1 => ?_) (fun h1 => ?_)
 ·try simp only [NM] at h1
  try simp only [eq_two, decide_eq_true_eq, decide_eq_false_iff_not] at h1
  refine WP_skip ?_
  refine WP_seq ?_
  refine WP_block ?_
  refine WP_seq ?_
  refine WP_ops ?_
  refine WO_mv (v := .s (.int _ _)) rfl ?_
  refine WO_fa (o' := 0) rfl rfl rfl ?_
  refine WO_ixa rfl rfl rfl (by omega) ?_
  first | refine WO_ldA0 rfl rfl (.head _) ?_ | refine WO_ldAI rfl rfl (.head _) ?_
  refine WO_buildI rfl .nil ?_
  refine WO_eqa rfl rfl ?_
  refine WO_mv (v := .s (.bool _)) rfl ?_
  refine WO_case (t := 28) rfl (fun h2 => ?_) (fun h2 => ?_)
  ·try simp only [NM] at h2
   try simp only [eq_two, decide_eq_true_eq, decide_eq_false_iff_not] at h2
   refine WO_gt rfl ?_
   refine WO_mv (v := .s (.int _ _)) rfl ?_
   refine WO_gt rfl ?_
   refine WO_fa (o' := 0) rfl rfl rfl ?_
   refine WO_gt rfl ?_
   refine WO_ixa rfl rfl rfl (by omega) ?_
   refine WO_gt rfl ?_
   first | refine WO_ldA0 rfl rfl (.head _) ?_ | refine WO_ldAI rfl rfl (.head _) ?_
   refine WO_gt rfl ?_
   refine WO_call0 rfl (RF_of (rMay_run _)) rfl rfl rfl ?_
   refine WO_gt rfl ?_
   refine WO_un (r := .bool _) rfl rfl ?_
   refine WO_pick (v := .s (.bool _)) rfl rfl ?_
   refine WO_nil ?_
   refine WP_cond rfl (fun h3 => ?_) (fun h3 => ?_)
   ·try simp only [NM] at h3
    try simp only [eq_two, decide_eq_true_eq, decide_eq_false_iff_not] at h3
    refine WP_seq ?_
    refine WP_ops ?_
    first | refine WO_ldA0 rfl rfl (.head _) ?_ | refine WO_ldAI rfl rfl (.head _) ?_
    refine WO_call0 rfl (RF_of (Right_run P)) rfl rfl rfl ?_
    refine WO_un (r := .bool _) rfl rfl ?_
    refine WO_mv (v := .s (.bool _)) rfl ?_
    refine WO_nil ?_
    refine WP_ret ?_
    refine ⟨_, RS_tmp (v := .s (.bool _)) rfl (RS_nil), ?_⟩
    refine congrArg (fun b => V.s (S.bool b)) ?_
    rw [right_no (i := i) (by omega) (by assumption) (by assumption)]; rfl
   ·try simp only [NM] at h3
    try simp only [eq_two, decide_eq_true_eq, decide_eq_false_iff_not] at h3
    refine WP_skip ?_
    refine WP_ops ?_
    refine WO_mv (v := .s (.int _ _)) rfl ?_
    refine WO_add rfl rfl (by omega) ?_
    refine WO_mv (v := .s (.int _ _)) rfl ?_
    refine WO_nil ?_
    refine ⟨64 - (i + 1), _, by omega, (.cons_cons _ .slnil), i + 1, by omega, rfl, ?_, rfl, rfl, rfl, rfl, rfl⟩
    intro j hj
    by_cases e : j = i
    · subst e; first | exact .inr (by assumption) | exact .inl (of_decide_eq_true (by assumption)) | exact .inl (by assumption)
    · exact hn j (by omega)
  ·try simp only [NM] at h2
   try simp only [eq_two, decide_eq_true_eq, decide_eq_false_iff_not] at h2
   refine WO_gf rfl rfl ?_
   refine WO_gf rfl rfl ?_
   refine WO_gf rfl rfl ?_
   refine WO_gf rfl rfl ?_
   refine WO_gf rfl rfl ?_
   refine WO_gf rfl rfl ?_
   refine WO_pick (v := .s (.bool _)) rfl rfl ?_
   refine WO_nil ?_
   refine WP_cond rfl (fun h => nomatch h) (fun _ => ?_)
   refine WP_skip ?_
   refine WP_ops ?_
   refine WO_mv (v := .s (.int _ _)) rfl ?_
   refine WO_add rfl rfl (by omega) ?_
   refine WO_mv (v := .s (.int _ _)) rfl ?_
   refine WO_nil ?_
   refine ⟨64 - (i + 1), _, by omega, (.cons_cons _ .slnil), i + 1, by omega, rfl, ?_, rfl, rfl, rfl, rfl, rfl⟩
   intro j hj
   by_cases e : j = i
   · subst e; first | exact .inr (by assumption) | exact .inl (of_decide_eq_true (by assumption)) | exact .inl (by assumption)
   · exact hn j (by omega)
 ·try simp only [NM] at h1
  try simp only [eq_two, decide_eq_true_eq, decide_eq_false_iff_not] at h1
  refine WP_exit ?_
  refine xhere ?_
  refine WP_cut (fun f n L => (P 128 = 0 ∨ P 128 = 1) ∧ (f 1 = .s (.int .i64 x)) ∧ (f 2 = .s (.int .i64 y)) ∧ (f 3 = .ptr 0 0 133) ∧ (L = [(0, .sc .var 133 (ia P))])) ?_ (fun f nb L hI => ?_)
  ·skip
   refine WP_seq ?_
   refine WP_ops ?_
   refine WO_fa (o' := 128) rfl rfl rfl ?_
   refine WO_ldI (x := P 128) rfl rfl (.head _) (rfl) ?_
   refine WO_bin (r := .bool _) rfl rfl rfl ?_
   refine WO_mv (v := .s (.bool _)) rfl ?_
   refine WO_case (t := 42) rfl (fun h4 => ?_) (fun h4 => ?_)
   ·try simp only [NM] at h4
    try simp only [eq_two, decide_eq_true_eq, decide_eq_false_iff_not] at h4
    refine WO_gt rfl ?_
    refine WO_fa (o' := 128) rfl rfl rfl ?_
    refine WO_gt rfl ?_
    refine WO_ldI (x := P 128) rfl rfl (.head _) (rfl) ?_
    refine WO_gt rfl ?_
    refine WO_bin (r := .bool _) rfl rfl rfl ?_
    refine WO_pick (v := .s (.bool _)) rfl rfl ?_
    refine WO_nil ?_
    refine WP_cond rfl (fun h5 => ?_) (fun h5 => ?_)
    ·try simp only [NM] at h5
     try simp only [eq_two, decide_eq_true_eq, decide_eq_false_iff_not] at h5
     refine WP_seq ?_
     refine WP_ops ?_
     first | refine WO_ldA0 rfl rfl (.head _) ?_ | refine WO_ldAI rfl rfl (.head _) ?_
     refine WO_call0 rfl (RF_of (Right_run P)) rfl rfl rfl ?_
     refine WO_un (r := .bool _) rfl rfl ?_
     refine WO_mv (v := .s (.bool _)) rfl ?_
     refine WO_nil ?_
     refine WP_ret ?_
     refine ⟨_, RS_tmp (v := .s (.bool _)) rfl (RS_nil), ?_⟩
     refine congrArg (fun b => V.s (S.bool b)) ?_
     rw [right_no2 (by omega)]; rfl
    ·try simp only [NM] at h5
     try simp only [eq_two, decide_eq_true_eq, decide_eq_false_iff_not] at h5
     refine WP_skip ?_
     refine ⟨_, (.cons_cons _ .slnil), ?_, rfl, rfl, rfl, rfl⟩
     omega
   ·try simp only [NM] at h4
    try simp only [eq_two, decide_eq_true_eq, decide_eq_false_iff_not] at h4
    refine WO_gf rfl rfl ?_
    refine WO_gf rfl rfl ?_
    refine WO_gf rfl rfl ?_
    refine WO_pick (v := .s (.bool _)) rfl rfl ?_
    refine WO_nil ?_
    refine WP_cond rfl (fun h => nomatch h) (fun _ => ?_)
    refine WP_skip ?_
    refine ⟨_, (.cons_cons _ .slnil), ?_, rfl, rfl, rfl, rfl⟩
    omega
  ·skip
   obtain ⟨hsd, k1, k2, k3, rfl⟩ := hI
   refine WP_know (d := 1) (v := .s (.int .i64 x)) k1 ?_
   refine WP_know (d := 2) (v := .s (.int .i64 y)) k2 ?_
   refine WP_know (d := 3) (v := .ptr 0 0 133) k3 ?_
   have hcl := clean_of (P := P) (fun s hs => hn s (by omega))
   refine WP_cut (fun f n L => ∃ (b8 : Nat) (Q : Nat → Int), (TurnOf P Q) ∧ (f 1 = .s (.int .i64 x)) ∧ (f 2 = .s (.int .i64 y)) ∧ (f 3 = .ptr 0 0 133) ∧ (f 8 = .ptr b8 0 133) ∧ (L = [(b8, .sc .var 133 (ia Q)), (0, .sc .var 133 (ia P))])) ?_ (fun f nb L hI => ?_)
   ·skip
    refine WP_ops ?_
    first | refine WO_ldA0 rfl rfl (.head _) ?_ | refine WO_ldAI rfl rfl (.head _) ?_
    obtain ⟨Q0, hT0, hQ0E⟩ := TurnB_ex P
    refine WO_call0 rfl (hQ0E) rfl rfl rfl ?_
    refine WO_allocI ?_
    refine WO_stA rfl rfl rfl rfl .here ?_
    refine WO_nil ?_
    refine ⟨_, (.cons_cons _ (.cons_cons _ .slnil)), _, Q0, hT0, rfl, rfl, rfl, rfl, ?_⟩
    rw [ovA_whole (fun i hi => (hT0.out i hi).symm)]
   ·skip
    obtain ⟨b8, Q, hT, k1, k2, k3, k8, rfl⟩ := hI
    refine WP_know (d := 1) (v := .s (.int .i64 x)) k1 ?_
    refine WP_know (d := 2) (v := .s (.int .i64 y)) k2 ?_
    refine WP_know (d := 3) (v := .ptr 0 0 133) k3 ?_
    refine WP_know (d := 8) (v := .ptr b8 0 133) k8 ?_
    refine WP_seq ?_
    refine WP_seq ?_
    refine WP_ops ?_
    first | refine WO_ldA0 rfl rfl (.head _) ?_ | refine WO_ldAI rfl rfl (.head _) ?_
    obtain ⟨R, hU, hRE⟩ := TurnB_ex Q
    refine WO_callq0 rfl (hRE) rfl rfl rfl ?_
    first | refine WO_ldA0 rfl rfl (.tail _ (.head _)) ?_ | refine WO_ldAI rfl rfl (.tail _ (.head _)) ?_
    refine WO_eqaC rfl rfl (eqI_fg (fun i hi => turn_back hT hU hcl hsd i hi)) ?_
    refine WO_mv (v := .s (.bool _)) rfl ?_
    refine WO_gt rfl ?_
    first | refine WO_ldA0 rfl rfl (.head _) ?_ | refine WO_ldAI rfl rfl (.head _) ?_
    refine WO_gt rfl ?_
    refine WO_callq0 rfl (RF_of (Right_run Q)) rfl rfl rfl ?_
    refine WO_gt rfl ?_
    first | refine WO_ldA0 rfl rfl (.tail _ (.head _)) ?_ | refine WO_ldAI rfl rfl (.tail _ (.head _)) ?_
    refine WO_gt rfl ?_
    refine WO_call0 rfl (RF_of (Right_run P)) rfl rfl rfl ?_
    refine WO_gt rfl ?_
    refine WO_eqbF rfl rfl (right_turn hT hcl hsd) ?_
    refine WO_pick (v := .s (.bool _)) rfl rfl ?_
    refine WO_mv (v := .s (.bool _)) rfl ?_
    refine WO_gt rfl ?_
    refine WO_fa (o' := 128) rfl rfl rfl ?_
    refine WO_gt rfl ?_
    refine WO_ldI (x := Q 128) rfl rfl (.head _) (rfl) ?_
    refine WO_gt rfl ?_
    refine WO_fa (o' := 128) rfl rfl rfl ?_
    refine WO_gt rfl ?_
    refine WO_ldI (x := P 128) rfl rfl (.tail _ (.head _)) (rfl) ?_
    refine WO_gt rfl ?_
    refine WO_callq0 rfl (RF_of (Other_run _)) rfl rfl rfl ?_
    refine WO_gt rfl ?_
    refine WO_bin rfl rfl (neq_same hT.side) ?_
    refine WO_pick (v := .s (.bool _)) rfl rfl ?_
    refine WO_nil ?_
    refine WP_cond rfl (fun h => nomatch h) (fun _ => ?_)
    refine WP_skip ?_
    refine WP_seq ?_
    refine WP_ops ?_
    refine WO_mv (v := .s (.int _ _)) rfl ?_
    have hkx := pickM_bd x (n := 6) (by omega)
    refine WO_call0 rfl (RF_of (Pick_run x 6 (by omega) (by omega))) rfl rfl rfl ?_
    refine WO_add rfl rfl (by omega) ?_
    refine WO_mv (v := .s (.int _ _)) rfl ?_
    have hky := pickM_bd y (n := 2) (by omega)
    refine WO_call0 rfl (RF_of (Pick_run y 2 (by omega) (by omega))) rfl rfl rfl ?_
    refine WO_buildI rfl (.one rfl (.one rfl .nil)) ?_
    refine WO_allocI ?_
    refine WO_stA rfl rfl rfl rfl .here ?_
    refine WO_nil ?_
    refine WP_seq ?_
    refine WP_ops ?_
    first | refine WO_ldA0 rfl rfl (.head _) ?_ | refine WO_ldAI rfl rfl (.head _) ?_
    refine WO_allocI ?_
    refine WO_stA rfl rfl rfl rfl .here ?_
    refine WO_nil ?_
    refine WP_cut (fun f n L => ∃ (b8 b9 b10 : Nat) (X Y : Nat → Int), (1 ≤ X 0 ∧ X 0 ≤ 6 ∧ (X 1 = 0 ∨ X 1 = 1)) ∧ (Y 0 = X 0) ∧ (Y 1 = otherM (X 1)) ∧ (f 3 = .ptr 0 0 133) ∧ (f 8 = .ptr b8 0 133) ∧ (f 9 = .ptr b9 0 2) ∧ (f 10 = .ptr b10 0 2) ∧ (L = [(b10, .sc .var 2 (ia Y)), (b9, .sc .var 2 (ia X)), (b8, .sc .var 133 (ia Q)), (0, .sc .var 133 (ia P))])) ?_ (fun f nb L hI => ?_)
    ·skip
     refine WP_ops ?_
     refine WO_fa (o' := 1) rfl rfl rfl ?_
     refine WO_ldI (x := pickM y 2) rfl rfl (.tail _ (.head _)) (rfl) ?_
     refine WO_call0 rfl (RF_of (Other_run _)) rfl rfl rfl ?_
     refine WO_fa (o' := 1) rfl rfl rfl ?_
     refine WO_stI rfl rfl rfl rfl .here ?_
     refine WO_nil ?_
     refine ⟨_, (.cons_cons _ (.cons_cons _ (.cons_cons _ (.cons_cons _ .slnil)))), _, _, _, _, _, ?_, ?_, ?_, rfl, rfl, rfl, rfl, rfl⟩
     ·exact ⟨show 1 ≤ 1 + pickM x 6 by omega, show 1 + pickM x 6 ≤ 6 by omega, show pickM y 2 = 0 ∨ pickM y 2 = 1 by omega⟩
     ·rfl
     ·rfl
    ·skip
     obtain ⟨b8, b9, b10, X, Y, hX, hY0, hY1, k3, k8, k9, k10, rfl⟩ := hI
     refine WP_know (d := 3) (v := .ptr 0 0 133) k3 ?_
     refine WP_know (d := 8) (v := .ptr b8 0 133) k8 ?_
     refine WP_know (d := 9) (v := .ptr b9 0 2) k9 ?_
     refine WP_know (d := 10) (v := .ptr b10 0 2) k10 ?_
     refine WP_seq ?_
     refine WP_ops ?_
     first | refine WO_ldA0 rfl rfl (.tail _ (.tail _ (.tail _ (.head _)))) ?_ | refine WO_ldAI rfl rfl (.tail _ (.tail _ (.tail _ (.head _)))) ?_
     first | refine WO_ldA0 rfl rfl (.tail _ (.head _)) ?_ | refine WO_ldAI rfl rfl (.tail _ (.head _)) ?_
     have hSt := st_turn hT hcl hX hY0 hY1
     have hcnt := cnt_turn hSt
     have hbA := lstM_le (stB P X) 64
     rcases Find_ex P X with ⟨hc1, hT1⟩ | ⟨hc1, qA, FA, hFA, hT1⟩
     ·skip
      refine WO_callq0 rfl (hT1) rfl rfl rfl ?_
      first | refine WO_ldA0 rfl rfl (.tail _ (.tail _ (.head _))) ?_ | refine WO_ldAI rfl rfl (.tail _ (.tail _ (.head _))) ?_
      first | refine WO_ldA0 rfl rfl (.head _) ?_ | refine WO_ldAI rfl rfl (.head _) ?_
      rcases Find_ex Q Y with ⟨hc2, hT2⟩ | ⟨hc2, qB, FB, hFB, hT2⟩
      ·skip
       refine WO_call0 rfl (hT2) rfl rfl rfl ?_
       refine WO_mv (v := .snil) rfl ?_
       refine WO_mv (v := .snil) rfl ?_
       refine WO_nil ?_
       refine WP_seq ?_
       refine WP_seq ?_
       refine WP_ops ?_
       refine WO_mv (v := .snil) rfl ?_
       refine WO_lenN rfl ?_
       refine WO_mv (v := .snil) rfl ?_
       refine WO_lenN rfl ?_
       refine WO_bin rfl rfl (neq_same (by first | rfl | omega)) ?_
       refine WO_nil ?_
       refine WP_cond rfl (fun h => nomatch h) (fun _ => ?_)
       refine WP_skip ?_
       refine WP_seq ?_
       refine WP_seq ?_
       refine WP_ops ?_
       refine WO_mv rfl ?_
       refine WO_nil ?_
       refine WP_block ?_
       refine WP_unroll ?_
       refine WP_seq ?_
       refine WP_seq ?_
       refine WP_ops ?_
       refine WO_mv (v := .s (.int _ _)) rfl ?_
       refine WO_mv (v := .snil) rfl ?_
       refine WO_lenN rfl ?_
       refine WO_bin (r := .bool _) rfl rfl rfl ?_
       refine WO_nil ?_
       refine WP_cond rfl (fun h6 => ?_) (fun h6 => ?_)
       ·try simp only [NM] at h6
        try simp only [eq_two, decide_eq_true_eq, decide_eq_false_iff_not] at h6
        exfalso; first | omega | (simp at h6)
       ·try simp only [NM] at h6
        try simp only [eq_two, decide_eq_true_eq, decide_eq_false_iff_not] at h6
        refine WP_exit ?_
        refine xhere ?_
        refine WP_seq ?_
        refine WP_ops ?_
        refine WO_mv rfl ?_
        refine WO_nil ?_
        refine WP_ret ?_
        refine ⟨_, RS_tmp (v := .s (.bool _)) rfl (RS_nil), ?_⟩
        rfl
      ·skip
       exfalso; omega
     ·skip
      refine WO_callqN (mk := fun b => .sl b 0 (lstM (stB P X) 64).1 1 .whole) (rs := []) (Bs := []) One_sl rfl hT1 rfl rfl (Nat.le_of_ble_eq_true rfl) (fun _ h => h) rfl trivial rfl rfl ?_
      first | refine WO_ldA0 rfl rfl (.tail _ (.tail _ (.tail _ (.head _)))) ?_ | refine WO_ldAI rfl rfl (.tail _ (.tail _ (.tail _ (.head _)))) ?_
      first | refine WO_ldA0 rfl rfl (.tail _ (.head _)) ?_ | refine WO_ldAI rfl rfl (.tail _ (.head _)) ?_
      rcases Find_ex Q Y with ⟨hc2, hT2⟩ | ⟨hc2, qB, FB, hFB, hT2⟩
      ·skip
       exfalso; omega
      ·skip
       refine WO_callN (mk := fun b => .sl b 0 (lstM (stB Q Y) 64).1 1 .whole) (rs := []) (Bs := []) One_sl rfl hT2 rfl rfl (Nat.le_of_ble_eq_true rfl) (fun _ h => h) rfl trivial rfl rfl .nil ?_
       obtain ⟨hbd, hsrt, hacr⟩ := two_lists hSt hFA hFB
       refine WO_mv (v := .sl _ _ _ _ _) rfl ?_
       refine WO_mv (v := .sl _ _ _ _ _) rfl ?_
       refine WO_nil ?_
       refine WP_seq ?_
       refine WP_seq ?_
       refine WP_ops ?_
       refine WO_mv (v := .sl _ _ _ _ _) rfl ?_
       refine WO_len rfl ?_
       refine WO_mv (v := .sl _ _ _ _ _) rfl ?_
       refine WO_len rfl ?_
       refine WO_bin rfl rfl (neq_same (by first | rfl | omega)) ?_
       refine WO_nil ?_
       refine WP_cond rfl (fun h => nomatch h) (fun _ => ?_)
       refine WP_skip ?_
       refine WP_seq ?_
       refine WP_seq ?_
       refine WP_ops ?_
       refine WO_mv rfl ?_
       refine WO_nil ?_
       refine WP_block ?_
       refine WP_sub (L' := [_, _]) (.cons_cons _ (.cons_cons _ (.cons _ (.cons _ (.cons _ (.cons _ .slnil)))))) ?_
       refine WP_loop (fun m f _ L => ∃ (i : Nat) (ba bb : Nat), (i ≤ (lstM (stB P X) 64).1) ∧ (m = (lstM (stB P X) 64).1 - i) ∧ (f 11 = .sl ba 0 (lstM (stB P X) 64).1 1 .whole) ∧ (f 12 = .sl bb 0 (lstM (stB Q Y) 64).1 1 .whole) ∧ (f 13 = .s (.int .i64 i)) ∧ (L = [(bb, .sc .grow qB (ia FB)), (ba, .sc .grow qA (ia FA))])) (fun m f nb L hI => ?_) ((lstM (stB P X) 64).1) ⟨0, _, _, by omega, rfl, rfl, rfl, rfl, rfl⟩
       obtain ⟨i, ba, bb, hi, hm, k11, k12, k13, rfl⟩ := hI
       refine WP_know (d := 11) (v := .sl ba 0 (lstM (stB P X) 64).1 1 .whole) k11 ?_
       refine WP_know (d := 12) (v := .sl bb 0 (lstM (stB Q Y) 64).1 1 .whole) k12 ?_
       refine WP_know (d := 13) (v := .s (.int .i64 i)) k13 ?_
       refine WP_seq ?_
       refine WP_seq ?_
       refine WP_ops ?_
       refine WO_mv (v := .s (.int _ _)) rfl ?_
       refine WO_mv (v := .sl _ _ _ _ _) rfl ?_
       refine WO_len rfl ?_
       refine WO_bin (r := .bool _) rfl rfl rfl ?_
       refine WO_nil ?_
       refine WP_cond rfl (fun h7 => ?_) (fun h7 => ?_)
       ·try simp only [NM] at h7
        try simp only [eq_two, decide_eq_true_eq, decide_eq_false_iff_not] at h7
        refine WP_skip ?_
        refine WP_seq ?_
        refine WP_block ?_
        refine WP_seq ?_
        refine WP_ops ?_
        refine WO_mv rfl ?_
        refine WO_nil ?_
        refine WP_cut (fun f n L => (f 11 = .sl ba 0 (lstM (stB P X) 64).1 1 .whole) ∧ (f 12 = .sl bb 0 (lstM (stB Q Y) 64).1 1 .whole) ∧ (f 13 = .s (.int .i64 i)) ∧ (f 14 = .s (.bool true)) ∧ (L = [(bb, .sc .grow qB (ia FB)), (ba, .sc .grow qA (ia FA))])) ?_ (fun f nb L hI => ?_)
        ·skip
         refine WP_seq ?_
         refine WP_ops ?_
         refine WO_mv rfl ?_
         refine WO_nil ?_
         refine WP_block ?_
         refine WP_sub (L' := [_, _]) (.cons_cons _ (.cons_cons _ .slnil)) ?_
         refine WP_loop (fun m f _ L => ∃ (k : Nat) (fd : Bool), (k ≤ (lstM (stB Q Y) 64).1) ∧ (m = (lstM (stB Q Y) 64).1 - k) ∧ (∀ j : Nat, j < k → FB j = 8 * (7 - FA i / 8) + FA i % 8 → fd = true) ∧ (f 11 = .sl ba 0 (lstM (stB P X) 64).1 1 .whole) ∧ (f 12 = .sl bb 0 (lstM (stB Q Y) 64).1 1 .whole) ∧ (f 13 = .s (.int .i64 i)) ∧ (f 14 = .s (.bool fd)) ∧ (f 15 = .s (.int .i64 k)) ∧ (L = [(bb, .sc .grow qB (ia FB)), (ba, .sc .grow qA (ia FA))])) (fun m f nb L hI => ?_) ((lstM (stB Q Y) 64).1) ⟨0, false, by omega, rfl, fun j h => by omega, rfl, rfl, rfl, rfl, rfl, rfl⟩
         obtain ⟨k, fd, hk, hm, hfd, k11, k12, k13, k14, k15, rfl⟩ := hI
         refine WP_know (d := 11) (v := .sl ba 0 (lstM (stB P X) 64).1 1 .whole) k11 ?_
         refine WP_know (d := 12) (v := .sl bb 0 (lstM (stB Q Y) 64).1 1 .whole) k12 ?_
         refine WP_know (d := 13) (v := .s (.int .i64 i)) k13 ?_
         refine WP_know (d := 14) (v := .s (.bool fd)) k14 ?_
         refine WP_know (d := 15) (v := .s (.int .i64 k)) k15 ?_
         refine WP_seq ?_
         refine WP_seq ?_
         refine WP_ops ?_
         refine WO_mv (v := .s (.int _ _)) rfl ?_
         refine WO_mv (v := .sl _ _ _ _ _) rfl ?_
         refine WO_len rfl ?_
         refine WO_bin (r := .bool _) rfl rfl rfl ?_
         refine WO_nil ?_
         refine WP_cond rfl (fun h8 => ?_) (fun h8 => ?_)
         ·try simp only [NM] at h8
          try simp only [eq_two, decide_eq_true_eq, decide_eq_false_iff_not] at h8
          refine WP_skip ?_
          refine WP_seq ?_
          refine WP_block ?_
          refine WP_ops ?_
          refine WO_mv (v := .s (.bool _)) rfl ?_
          refine WO_mv (v := .s (.bool _)) rfl ?_
          refine WO_case (t := 106) rfl (fun h9 => ?_) (fun h9 => ?_)
          ·try simp only [NM] at h9
           try simp only [eq_two, decide_eq_true_eq, decide_eq_false_iff_not] at h9
           refine WO_gf rfl rfl ?_
           refine WO_gf rfl rfl ?_
           refine WO_gf rfl rfl ?_
           refine WO_gf rfl rfl ?_
           refine WO_gf rfl rfl ?_
           refine WO_gf rfl rfl ?_
           refine WO_gf rfl rfl ?_
           refine WO_gf rfl rfl ?_
           refine WO_gf rfl rfl ?_
           refine WO_gf rfl rfl ?_
           refine WO_gf rfl rfl ?_
           refine WO_gf rfl rfl ?_
           refine WO_gf rfl rfl ?_
           refine WO_gf rfl rfl ?_
           refine WO_gf rfl rfl ?_
           refine WO_gf rfl rfl ?_
           refine WO_gf rfl rfl ?_
           refine WO_gf rfl rfl ?_
           refine WO_pick (v := .s (.bool _)) rfl rfl ?_
           refine WO_mv (v := .s (.bool _)) rfl ?_
           refine WO_nil ?_
           refine WP_ops ?_
           refine WO_mv (v := .s (.int _ _)) rfl ?_
           refine WO_add rfl rfl (by omega) ?_
           refine WO_mv (v := .s (.int _ _)) rfl ?_
           refine WO_nil ?_
           first | exact ⟨(lstM (stB Q Y) 64).1 - (k + 1), _, by omega, (.cons_cons _ (.cons_cons _ .slnil)), k + 1, true, by omega, rfl, fun _ _ _ => rfl, rfl, rfl, rfl, rfl, rfl, rfl⟩ | (refine ⟨(lstM (stB Q Y) 64).1 - (k + 1), _, by omega, (.cons_cons _ (.cons_cons _ .slnil)), k + 1, _, by omega, rfl, ?_, rfl, rfl, rfl, rfl, rfl, rfl⟩; intro j hj e; by_cases q : j = k; (subst q; exact beq_iff_eq.2 e); (have h9 := hfd j (by omega) e; simp_all))
          ·try simp only [NM] at h9
           try simp only [eq_two, decide_eq_true_eq, decide_eq_false_iff_not] at h9
           refine WO_gt rfl ?_
           refine WO_mv (v := .sl _ _ _ _ _) rfl ?_
           refine WO_gt rfl ?_
           refine WO_mv (v := .s (.int _ _)) rfl ?_
           refine WO_gt rfl ?_
           refine WO_ixs rfl rfl (by omega) ?_
           refine WO_gt rfl ?_
           refine WO_ldI (x := FB k) rfl rfl (.head _) (congrArg FB (by omega)) ?_
           refine WO_gt rfl ?_
           refine WO_mv (v := .sl _ _ _ _ _) rfl ?_
           refine WO_gt rfl ?_
           refine WO_mv (v := .s (.int _ _)) rfl ?_
           refine WO_gt rfl ?_
           refine WO_ixs rfl rfl (by omega) ?_
           refine WO_gt rfl ?_
           refine WO_ldI (x := FA i) rfl rfl (.tail _ (.head _)) (congrArg FA (by omega)) ?_
           refine WO_gt rfl ?_
           have hFi := hbd i (by omega)
           refine WO_quo rfl rfl (by omega) ?_
           refine WO_gt rfl ?_
           refine WO_sub rfl rfl (by omega) ?_
           refine WO_gt rfl ?_
           refine WO_mul rfl rfl (by omega) ?_
           refine WO_gt rfl ?_
           refine WO_mv (v := .sl _ _ _ _ _) rfl ?_
           refine WO_gt rfl ?_
           refine WO_mv (v := .s (.int _ _)) rfl ?_
           refine WO_gt rfl ?_
           refine WO_ixs rfl rfl (by omega) ?_
           refine WO_gt rfl ?_
           refine WO_ldI (x := FA i) rfl rfl (.tail _ (.head _)) (congrArg FA (by omega)) ?_
           refine WO_gt rfl ?_
           refine WO_rem rfl rfl (by omega) ?_
           refine WO_gt rfl ?_
           refine WO_add rfl rfl (by omega) ?_
           refine WO_gt rfl ?_
           refine WO_bin (r := .bool _) rfl rfl rfl ?_
           refine WO_pick (v := .s (.bool _)) rfl rfl ?_
           refine WO_mv (v := .s (.bool _)) rfl ?_
           refine WO_nil ?_
           refine WP_ops ?_
           refine WO_mv (v := .s (.int _ _)) rfl ?_
           refine WO_add rfl rfl (by omega) ?_
           refine WO_mv (v := .s (.int _ _)) rfl ?_
           refine WO_nil ?_
           first | exact ⟨(lstM (stB Q Y) 64).1 - (k + 1), _, by omega, (.cons_cons _ (.cons_cons _ .slnil)), k + 1, true, by omega, rfl, fun _ _ _ => rfl, rfl, rfl, rfl, rfl, rfl, rfl⟩ | (refine ⟨(lstM (stB Q Y) 64).1 - (k + 1), _, by omega, (.cons_cons _ (.cons_cons _ .slnil)), k + 1, _, by omega, rfl, ?_, rfl, rfl, rfl, rfl, rfl, rfl⟩; intro j hj e; by_cases q : j = k; (subst q; exact beq_iff_eq.2 e); (have h9 := hfd j (by omega) e; simp_all))
         ·try simp only [NM] at h8
          try simp only [eq_two, decide_eq_true_eq, decide_eq_false_iff_not] at h8
          refine WP_exit ?_
          refine xhere ?_
          obtain ⟨j0, hj0, hl0⟩ := hacr i (by omega)
          have hfd1 : fd = true := hfd j0 (by omega) hl0
          subst hfd1
          exact ⟨_, (.cons_cons _ (.cons_cons _ .slnil)), rfl, rfl, rfl, rfl, rfl⟩
        ·skip
         obtain ⟨k11, k12, k13, k14, rfl⟩ := hI
         refine WP_know (d := 11) (v := .sl ba 0 (lstM (stB P X) 64).1 1 .whole) k11 ?_
         refine WP_know (d := 12) (v := .sl bb 0 (lstM (stB Q Y) 64).1 1 .whole) k12 ?_
         refine WP_know (d := 13) (v := .s (.int .i64 i)) k13 ?_
         refine WP_know (d := 14) (v := .s (.bool true)) k14 ?_
         refine WP_seq ?_
         refine WP_ops ?_
         refine WO_mv (v := .s (.bool _)) rfl ?_
         refine WO_un (r := .bool _) rfl rfl ?_
         refine WO_mv (v := .s (.bool _)) rfl ?_
         refine WO_gt rfl ?_
         refine WO_mv (v := .s (.int _ _)) rfl ?_
         refine WO_gt rfl ?_
         refine WO_bin (r := .bool _) rfl rfl rfl ?_
         refine WO_gt rfl ?_
         refine WO_mv (v := .s (.bool _)) rfl ?_
         refine WO_case (t := 131) rfl (fun h10 => ?_) (fun h10 => ?_)
         ·try simp only [NM] at h10
          try simp only [eq_two, decide_eq_true_eq, decide_eq_false_iff_not] at h10
          refine WO_gt rfl ?_
          refine WO_mv (v := .sl _ _ _ _ _) rfl ?_
          refine WO_gt rfl ?_
          refine WO_mv (v := .s (.int _ _)) rfl ?_
          refine WO_gt rfl ?_
          refine WO_sub rfl rfl (by omega) ?_
          refine WO_gt rfl ?_
          refine WO_ixs rfl rfl (by omega) ?_
          refine WO_gt rfl ?_
          refine WO_ldI (x := FA (i - 1)) rfl rfl (.tail _ (.head _)) (congrArg FA (by omega)) ?_
          refine WO_gt rfl ?_
          refine WO_mv (v := .sl _ _ _ _ _) rfl ?_
          refine WO_gt rfl ?_
          refine WO_mv (v := .s (.int _ _)) rfl ?_
          refine WO_gt rfl ?_
          refine WO_ixs rfl rfl (by omega) ?_
          refine WO_gt rfl ?_
          refine WO_ldI (x := FA i) rfl rfl (.tail _ (.head _)) (congrArg FA (by omega)) ?_
          refine WO_gt rfl ?_
          have hsr := hsrt (i - 1) i (by omega) (by omega)
          refine WO_bin (r := .bool _) rfl rfl rfl ?_
          refine WO_gt rfl ?_
          refine WO_pick (v := .s (.bool _)) rfl rfl ?_
          refine WO_pick (v := .s (.bool _)) rfl rfl ?_
          refine WO_nil ?_
          refine WP_cond rfl (fun h11 => ?_) (fun h11 => ?_)
          ·try simp only [NM] at h11
           try simp only [eq_two, decide_eq_true_eq, decide_eq_false_iff_not] at h11
           exfalso; first | omega | (simp at h11)
          ·try simp only [NM] at h11
           try simp only [eq_two, decide_eq_true_eq, decide_eq_false_iff_not] at h11
           refine WP_skip ?_
           refine WP_ops ?_
           refine WO_mv (v := .s (.int _ _)) rfl ?_
           refine WO_add rfl rfl (by omega) ?_
           refine WO_mv (v := .s (.int _ _)) rfl ?_
           refine WO_nil ?_
           exact ⟨(lstM (stB P X) 64).1 - (i + 1), _, by omega, (.cons_cons _ (.cons_cons _ .slnil)), i + 1, _, _, by omega, rfl, rfl, rfl, rfl, rfl⟩
         ·try simp only [NM] at h10
          try simp only [eq_two, decide_eq_true_eq, decide_eq_false_iff_not] at h10
          refine WO_gf rfl rfl ?_
          refine WO_gf rfl rfl ?_
          refine WO_gf rfl rfl ?_
          refine WO_gf rfl rfl ?_
          refine WO_gf rfl rfl ?_
          refine WO_gf rfl rfl ?_
          refine WO_gf rfl rfl ?_
          refine WO_gf rfl rfl ?_
          refine WO_gf rfl rfl ?_
          refine WO_gf rfl rfl ?_
          refine WO_gt rfl ?_
          refine WO_pick (v := .s (.bool _)) rfl rfl ?_
          refine WO_pick (v := .s (.bool _)) rfl rfl ?_
          refine WO_nil ?_
          refine WP_cond rfl (fun h => nomatch h) (fun _ => ?_)
          refine WP_skip ?_
          refine WP_ops ?_
          refine WO_mv (v := .s (.int _ _)) rfl ?_
          refine WO_add rfl rfl (by omega) ?_
          refine WO_mv (v := .s (.int _ _)) rfl ?_
          refine WO_nil ?_
          exact ⟨(lstM (stB P X) 64).1 - (i + 1), _, by omega, (.cons_cons _ (.cons_cons _ .slnil)), i + 1, _, _, by omega, rfl, rfl, rfl, rfl, rfl⟩
       ·try simp only [NM] at h7
        try simp only [eq_two, decide_eq_true_eq, decide_eq_false_iff_not] at h7
        refine WP_exit ?_
        refine xhere ?_
        refine WP_seq ?_
        refine WP_ops ?_
        refine WO_mv rfl ?_
        refine WO_nil ?_
        refine WP_ret ?_
        refine ⟨_, RS_tmp (v := .s (.bool _)) rfl (RS_nil), ?_⟩
        rfl
end Go.Proofs.Ytjldefmcnppdoaa
/-
  DERIVED: LAID BY THE SHELF's contract.sh OFF ITS TEMPLATE 'internal/stringslite.IndexByte' FOR THE PROGRAM 'Try' (the function's number there: 111). THE LIBRARY's OWN TEXT IS WALKED: nothing is assumed of it; where it calls a function without a Go body (internal/bytealg), THE MODEL's OWN ENTRY stands in, by its law (Derived/Lib/Bytealg.lean). Behind the contract: ONE FALSE NEIGHBOUR, a contract that says a little too much, REFUTED. (The template: the authors, an AI agent; Sun.)
-/
namespace Go.Proofs

set_option maxHeartbeats 1000000 in
set_option maxRecDepth 100000 in
/-- internal/stringslite.IndexByte (what strings.IndexByte calls): IT RETURNS 'Lib.indexByte s c'; the world is as it was. -/
theorem Try.stringslite_IndexByte (s : ByteArray) (c : Int) (w : World) :
    Calls Try.prog 111 #[.string s, .int .u8 c] w fun e w' => e = .returned (.int .i64 (Lib.indexByte s.data.toList c.toNat.toUInt8)) ∧ w' = w := by
  go_enter Try.func111, Try.ntmps111
  go_wp2
  rw [run_callFunc_extern Try.func121 (by kernel_rfl) (by kernel_rfl) (by kernel_rfl) (e := Extern.BytealgIndexByte.indexByte) (by kernel_rfl), Lib.run_indexByteString]
  simp only [Result.andThen]
  rw [Oper.upon_value]
  go_wp2
  go_ret
  exact ⟨rfl, rfl⟩

#print axioms Try.stringslite_IndexByte

set_option maxHeartbeats 1000000 in
/-- strings.IndexByte: "IndexByte returns the index of the first instance of c in s, or -1 if c is not present in s.": IT RETURNS 'Lib.indexByte s c'; the world is as it was. -/
theorem Try.strings_IndexByte (s : ByteArray) (c : Int) (w : World) :
    Calls Try.prog 85 #[.string s, .int .u8 c] w fun e w' => e = .returned (.int .i64 (Lib.indexByte s.data.toList c.toNat.toUInt8)) ∧ w' = w := by
  go_enter Try.func85, Try.ntmps85
  go_wp2_with (go_at_call 111; refine (Try.stringslite_IndexByte _ _ _).mono ?_; rintro e w' ⟨rfl, rfl⟩)
  go_ret
  exact ⟨rfl, rfl⟩

/-- A LITTLE TOO MUCH: 'the index of the LAST instance': falls at "aa", 'a'. -/
theorem Try.strings_IndexByte_not : ¬ ∀ (s : ByteArray) (c : Int) (w : World),
    Calls Try.prog 85 #[.string s, .int .u8 c] w fun e w' => e = .returned (.int .i64 ((s.size : Int) - 1 - Lib.indexByte s.data.toList.reverse c.toNat.toUInt8)) ∧ w' = w := by
  intro h
  have e := Lib.agree (by kernel_rfl) (Try.strings_IndexByte ⟨#[97, 97]⟩ 97 default) (h ⟨#[97, 97]⟩ 97 default)
  injection e with _ e
  revert e
  decide

#print axioms Try.strings_IndexByte
#print axioms Try.strings_IndexByte_not
end Go.Proofs
/- board.Start: the plain facts of its cells. -/
namespace Go.Proofs.Ytjldefmcnppdoaa
open Go Go.Am
theorem emptyF_lo (i : Nat) (h : i < 128) : emptyF i = 0 := by
  unfold emptyF
  rw [show Nat.beq i 130 = false from Bool.eq_false_iff.2 fun e => by have := Nat.eq_of_beq_eq_true e; omega, show Nat.beq i 132 = false from Bool.eq_false_iff.2 fun e => by have := Nat.eq_of_beq_eq_true e; omega]
  rfl
theorem cur0 : curF 0 (fun _ => false) = emptyF := by
  funext i
  unfold curF
  rw [if_neg (by simp)]
theorem start_mid : ∀ i, i < 128 → i / 16 ≠ 0 → i / 16 ≠ 1 → i / 16 ≠ 6 → i / 16 ≠ 7 → startF i = 0 := by decide
theorem cur_next (j : Nat) (S : Nat → Bool) (h0 : S 0 = true) (h1 : S 1 = true) (h6 : S 6 = true) (h7 : S 7 = true) : curF j S = curF (j + 1) (fun _ => false) := by
  funext i
  unfold curF
  by_cases hi : i < 128
  · by_cases hj : i / 2 % 8 < j
    · rw [if_pos ⟨hi, .inl hj⟩, if_pos ⟨hi, .inl (by omega)⟩]
    · by_cases hj2 : i / 2 % 8 = j
      · rw [if_pos (c := i < 128 ∧ (i / 2 % 8 < j + 1 ∨ i / 2 % 8 = j + 1 ∧ false = true)) ⟨hi, .inl (by omega)⟩]
        by_cases hs : S (i / 16) = true
        · rw [if_pos ⟨hi, .inr ⟨hj2, hs⟩⟩]
        · rw [if_neg (by simp [hj, hs]), emptyF_lo i hi]
          exact (start_mid i hi (fun e => hs (by rw [e]; exact h0)) (fun e => hs (by rw [e]; exact h1)) (fun e => hs (by rw [e]; exact h6)) (fun e => hs (by rw [e]; exact h7))).symm
      · rw [if_neg (by simp [hj, hj2]), if_neg (by simp; omega)]
  · rw [if_neg (by simp [hi]), if_neg (by simp [hi])]
theorem cur_step (j k : Nat) (S : Nat → Bool) (Q : Nat → Int) (hj : j < 8) (hk : k < 8) (hQ : ∀ i, i < 2 → Q i = startF (2 * (8 * k + j) + i)) :
    ovA (curF j S) (0 + ((8 * k + j : Nat) : Int).toNat * 2) 2 Q = curF j (fun r => S r || Nat.beq r k) := by
  have e : ((8 * k + j : Nat) : Int).toNat = 8 * k + j := Int.toNat_natCast _
  rw [e]
  funext i
  unfold ovA
  cases hb : Nat.ble (0 + (8 * k + j) * 2) i && Nat.blt i (0 + (8 * k + j) * 2 + 2) with
  | true =>
    simp only [Bool.and_eq_true] at hb
    have h1 := Nat.le_of_ble_eq_true hb.1
    have h2 : i + 1 ≤ 0 + (8 * k + j) * 2 + 2 := Nat.le_of_ble_eq_true hb.2
    rw [cond_true, hQ _ (by omega)]
    unfold curF
    rw [if_pos ⟨by omega, .inr ⟨by omega, by rw [show i / 16 = k by omega]; simp⟩⟩]
    congr 1
    omega
  | false =>
    rw [cond_false]
    have hn : ¬ (i / 2 = 8 * k + j) := by
      intro h
      rw [show Nat.ble (0 + (8 * k + j) * 2) i = true from Nat.ble_eq_true_of_le (by omega), show Nat.blt i (0 + (8 * k + j) * 2 + 2) = true from Nat.ble_eq_true_of_le (by omega)] at hb
      cases hb
    unfold curF
    by_cases hr : Nat.beq (i / 16) k = true
    · have := Nat.eq_of_beq_eq_true hr
      by_cases hj2 : i / 2 % 8 = j
      · exact absurd (show i / 2 = 8 * k + j by omega) hn
      · simp only [hj2, false_and, or_false]
    · simp only [Bool.not_eq_true] at hr
      simp only [hr, Bool.or_false]
theorem cur_end : ov (curF 8 (fun _ => false)) 129 15 = startF := by
  funext i
  unfold ov
  by_cases h : i < 128
  · rw [show Nat.beq i 129 = false from Bool.eq_false_iff.2 fun e => by have := Nat.eq_of_beq_eq_true e; omega, cond_false]
    unfold curF
    rw [if_pos ⟨h, .inl (by omega)⟩]
  · unfold startF
    rw [show Nat.blt i 128 = false from Bool.eq_false_iff.2 fun e => by have := Nat.le_of_ble_eq_true e; omega, cond_false]
    cases Nat.beq i 129 with
    | true => rfl
    | false =>
      rw [cond_false, cond_false]
      unfold curF
      rw [if_neg (by simp [h])]
      rfl
/-- What the map of file j says. -/
def Ent (j : Nat) (es : List MapEntry) : Prop := ∀ e ∈ es, ∃ (k : Nat) (Q : Nat → Int), (k = 0 ∨ k = 1 ∨ k = 6 ∨ k = 7) ∧ e.key = .int .i64 (k : Int) ∧ (∀ i, i < 2 → Q i = startF (2 * (8 * k + j) + i)) ∧ ∀ ι, VR ι (.agg 2 (ia Q)) e.val
theorem start_at : ∀ j, j < 8 → startF (2 * (8 * 0 + j) + 0) = backK j ∧ startF (2 * (8 * 0 + j) + 1) = 0 ∧ startF (2 * (8 * 1 + j) + 0) = 1 ∧ startF (2 * (8 * 1 + j) + 1) = 0 ∧ startF (2 * (8 * 6 + j) + 0) = 1 ∧ startF (2 * (8 * 6 + j) + 1) = 1 ∧ startF (2 * (8 * 7 + j) + 0) = backK j ∧ startF (2 * (8 * 7 + j) + 1) = 1 := by decide
theorem ent_of {ι : Inj} {j : Nat} (hj : j < 8) {es : List MapEntry}
    (h : MR ι [(.int .i64 0, .agg 2 (ia (ov (fun _ => 0) 0 (backK j)))), (.int .i64 1, .agg 2 (ia (ov (fun _ => 0) 0 1))), (.int .i64 6, .agg 2 (ia (ov (ov (fun _ => 0) 0 1) 1 1))), (.int .i64 7, .agg 2 (ia (ov (ov (fun _ => 0) 0 (backK j)) 1 1)))] es) :
    Ent j es ∧ ∀ k : Nat, (k = 0 ∨ k = 1 ∨ k = 6 ∨ k = 7) → ∃ e ∈ es, e.key = .int .i64 (k : Int) := by
  obtain ⟨a1, a2, a3, a4, a5, a6, a7, a8⟩ := start_at j hj
  simp only [MR] at h
  obtain ⟨e0, r0, rfl, k0, v0, e1, r1, rfl, k1, v1, e2, r2, rfl, k2, v2, e3, r3, rfl, k3, v3, rfl⟩ := h
  have two : ∀ (Q : Nat → Int) (b : Nat), Q 0 = startF (2 * b + 0) → Q 1 = startF (2 * b + 1) → ∀ i, i < 2 → Q i = startF (2 * b + i) := by
    intro Q b h0 h1 i hi
    have : i = 0 ∨ i = 1 := by omega
    rcases this with rfl | rfl
    · exact h0
    · exact h1
  have any : ∀ (Q : Nat → Int) (v : Value), VR ι (.agg 2 (ia Q)) v → ∀ ι', VR ι' (.agg 2 (ia Q)) v := by
    intro Q v h ι'
    simpa only [VR] using h
  refine ⟨fun e he => ?_, fun k hk => ?_⟩
  · simp only [List.mem_cons, List.not_mem_nil, or_false] at he
    rcases he with rfl | rfl | rfl | rfl
    · exact ⟨0, ov (fun _ => 0) 0 (backK j), .inl rfl, k0, two _ _ a1.symm a2.symm, any _ _ v0⟩
    · exact ⟨1, ov (fun _ => 0) 0 1, .inr (.inl rfl), k1, two _ _ a3.symm a4.symm, any _ _ v1⟩
    · exact ⟨6, ov (ov (fun _ => 0) 0 1) 1 1, .inr (.inr (.inl rfl)), k2, two _ _ a5.symm a6.symm, any _ _ v2⟩
    · exact ⟨7, ov (ov (fun _ => 0) 0 (backK j)) 1 1, .inr (.inr (.inr rfl)), k3, two _ _ a7.symm a8.symm, any _ _ v3⟩
  · rcases hk with rfl | rfl | rfl | rfl
    · exact ⟨e0, by simp, k0⟩
    · exact ⟨e1, by simp, k1⟩
    · exact ⟨e2, by simp, k2⟩
    · exact ⟨e3, by simp, k3⟩
theorem left_iff {es : Array MapEntry} {seen : Array Nat} {e : MapEntry} : e ∈ (Go.leftOf es seen).toList ↔ e ∈ es.toList ∧ seen.contains e.born = false := by
  have hq : (Go.leftOf es seen).toList = es.toList.filter fun e => !seen.contains e.born := by unfold Go.leftOf; exact Array.toList_filter ..
  rw [hq, List.mem_filter]
  simp
theorem left_none {es : Array MapEntry} {seen : Array Nat} (h : (Go.leftOf es seen).size = 0) {e : MapEntry} (he : e ∈ es.toList) : seen.contains e.born = true := by
  cases hc : seen.contains e.born with
  | true => rfl
  | false =>
    have := left_iff.2 ⟨he, hc⟩
    rw [← Array.length_toList] at h
    rw [List.eq_nil_of_length_eq_zero h] at this
    cases this
theorem same_born {es : List MapEntry} {ck : Nat} (h : Stamps es ck) {e e' : MapEntry} (he : e ∈ es) (he' : e' ∈ es) (hb : e.born = e'.born) : e = e' := by
  have h1 := Go.find_born e es h.2 he
  have h2 := Go.find_born e' es h.2 he'
  rw [hb, h2] at h1
  injection h1 with h1
  exact h1.symm
theorem idx_ok {args : List V} {σ : Heap} {v : V} {σ' : Heap} (h : idxPrim args σ = some (v, σ')) {ι : Inj} {W : World} {av : List Value} (hR : RelW ι σ W) (hv : VRL ι args av) :
    Calls Try.prog 85 av.toArray W fun e W' => ∃ ι' v', e = .returned v' ∧ VR ι' v v' ∧ Post ι σ W ι' σ' W' := by
  unfold idxPrim at h
  split at h
  · rename_i s c
    injection h with h
    injection h with h1 h2
    subst h1; subst h2
    simp only [VRL] at hv
    obtain ⟨v1, r1, rfl, hv1, v2, r2, rfl, hv2, rfl⟩ := hv
    simp only [VR, S.val] at hv1 hv2
    subst hv1; subst hv2
    refine (Try.strings_IndexByte s c W).mono ?_
    rintro e w' ⟨rfl, rfl⟩
    exact ⟨ι, _, rfl, by simp [VR, S.val], (QPost.refl hR).post⟩
  · cases h
theorem prims0 : PrimsOK Try.prog AM0 := by
  intro f pf hpf args σ v σ' h
  have hb : (bif Nat.beq f 85 then some idxPrim else none) = some pf := hpf
  cases hf : Nat.beq f 85 with
  | false => rw [hf] at hb; cases hb
  | true =>
    rw [hf] at hb
    injection hb with hb
    subst hb
    have := Nat.eq_of_beq_eq_true hf
    subst this
    exact ⟨⟨_, Try.func85, by kernel_rfl, by decide⟩, fun ι W av hR _ hv => idx_ok h hR hv⟩
theorem fns0 : FnsOK Try.prog AM0 := fnsOK
theorem mixed0 : Try.prog.follows .mixedOrders = true := by kernel_rfl
theorem run0 : RunOK Try.prog (Run AM0) := run_ok fns0 prims0 mixed0

/-- Behind the files below j. -/
def J0 (W0 : World) (k : Nat) (a : Act) (W : World) : Prop := ∃ (j : Nat) (P : Nat → Int) (f : FE) (n : Nat) (ι : Inj) (σ : Heap), k + j = 8 ∧ (∀ i, i < 8 → P i = backK i) ∧ f 0 = .ptr 0 0 133 ∧ f 1 = .ptr 1 0 133 ∧ f 7 = .agg 8 (ia P) ∧ f 8 = .s (.int .i64 (j : Int)) ∧
  St 35 W0 f n [(1, .sc .var 133 (ia (curF j fun _ => false))), (0, .sc .var 133 (ia fun _ => 0))] a W ι σ

/-- In file j, some ranks laid. -/
def J1 (W0 : World) (j : Nat) (P : Nat → Int) (k : Nat) (a : Act) (W : World) : Prop := ∃ (S : Nat → Bool) (r bm ck bi : Nat) (seen : Array Nat) (es : Array MapEntry) (f : FE) (n : Nat) (ι : Inj) (σ : Heap),
  (Go.leftOf es seen).size = k ∧ Ent j es.toList ∧ (∀ k : Nat, (k = 0 ∨ k = 1 ∨ k = 6 ∨ k = 7) → ∃ e ∈ es.toList, e.key = .int .i64 (k : Int)) ∧ Stamps es.toList ck ∧ (∀ e ∈ es.toList, seen.contains e.born = true → ∀ k : Nat, e.key = .int .i64 (k : Int) → S k = true) ∧
  ι bi = some ⟨r, 0, 0, 0, 0⟩ ∧ Held W0 r (.mapIter (some bm) ck seen ck) ι σ W ∧ Held W0 bm (.map es ck) ι σ W ∧ f 0 = .ptr 0 0 133 ∧ f 1 = .ptr 1 0 133 ∧ f 7 = .agg 8 (ia P) ∧ f 8 = .s (.int .i64 (j : Int)) ∧ f 2 = .s (.int .i64 (j : Int)) ∧ f 20 = .ptr bi 0 0 ∧
  St 35 W0 f n [(1, .sc .var 133 (ia (curF j S))), (0, .sc .var 133 (ia fun _ => 0))] a W ι σ

theorem rel_none0 (W : World) : RelW noInj0 [] W := by
  constructor
  · intro b p h; cases h
  · intro b p x h; cases h
  · intro b b' p p' h; cases h

theorem start_calls (W : World) : Calls Try.prog 77 #[] W fun e W' => ∃ v', e = .returned v' ∧ VR noInj0 (.agg 133 (ia startF)) v' ∧ ∃ ι' σ', Post noInj0 [] W ι' σ' W' := by
  refine calls_of_wp Try.func77 rfl ?_
  have hs0 : St 35 W (entryF []) 0 [] { tmps := #[] ++ Array.replicate (Try.f77.ntmps - 0) Go.undef, defers := [] } W noInj0 [] := by
    refine ⟨?_, ⟨rfl, trivial⟩, (QPost.refl (rel_none0 W)).post, rfl⟩
    have e : E 35 (entryF []) = List.replicate 35 .undef := rfl
    rw [e]
    exact VRL.undefs 35
  refine wp_seq (hs0.wp fns0 prims0 mixed0 (by kernel_rfl) (st_r0 _) fun x f n L ι σ a W1 ho hs _ => ?_)
  cases x with
  | exit j => exact ho.elim
  | ret => exact ho.elim
  | normal =>
  obtain ⟨k0, rfl, rfl⟩ := ho
  refine wp_seq (hs.wp fns0 prims0 mixed0 (by kernel_rfl) (st_r1 _ k0) fun x f n L ι σ a W1 ho hs _ => ?_)
  cases x with
  | exit j => exact ho.elim
  | ret => exact ho.elim
  | normal =>
  obtain ⟨k0, k1, rfl⟩ := ho
  refine wp_seq (wp_seq (hs.wp fns0 prims0 mixed0 (by kernel_rfl) (st_r2 _ _ _ k0 k1) fun x f n L ι σ a W1 ho hs _ => ?_))
  cases x with
  | exit j => exact ho.elim
  | ret => exact ho.elim
  | normal =>
  obtain ⟨P, hP, k0, k1, k7, k8, rfl⟩ := ho
  refine wp_block (wp_loop_by (J0 W) (fun k a W1 hJ => ?_) (k := 8) ⟨0, P, f, n, ι, σ, by omega, hP, k0, k1, k7, k8, by rw [cur0]; exact hs⟩)
  obtain ⟨j, P, f, n, ι, σ, hkj, hP, k0, k1, k7, k8, hs⟩ := hJ
  refine wp_seq (hs.wp fns0 prims0 mixed0 (by kernel_rfl) (st_r3 _ _ _ _ _ k0 k1 k7 k8) fun x f n L ι σ a W1 ho hs _ => ?_)
  cases x with
  | exit j => exact ho.elim
  | ret => exact ho.elim
  | normal =>
  obtain ⟨k0, k1, k7, k8, k9, rfl⟩ := ho
  have r9 := hs.getS (t := 9) rfl k9
  by_cases hj : (j : Int) < 8
  case neg =>
    rw [decide_eq_false hj] at r9
    refine wp_seq (wp_cond r9 ?_)
    refine wp_exit ?_
    have e8 : j = 8 := by omega
    subst e8
    simp only [Exit.then, Exit.inBlock, if_true]
    refine wp_seq (hs.wp fns0 prims0 mixed0 (by kernel_rfl) (st_r10 _ _ _ k0 k1) fun x f n L ι σ a W1 ho hs _ => ?_)
    cases x with
    | exit j => exact ho.elim
    | ret => exact ho.elim
    | normal =>
    obtain ⟨k0, k1, rfl⟩ := ho
    rw [cur_end] at hs
    refine wp_seq (hs.wp fns0 prims0 mixed0 (by kernel_rfl) (st_r11 _ _ _ k0 k1) fun x f n L ι σ a W1 ho hs _ => ?_)
    cases x with
    | exit j => exact ho.elim
    | ret => exact ho.elim
    | normal =>
    obtain ⟨k0, rfl⟩ := ho
    refine wp_ret ?_
    have hv : RS 35 f [(1, Blk.sc .var 133 (ia startF)), (0, Blk.sc .var 133 (ia (ovA (fun _ => 0) 0 133 startF)))] [.cell 0 true 133] [.agg 133 (ia (ovA (fun _ => 0) 0 133 startF))] := RS_cell k0 rfl (.tail _ (.head _)) RS_nil
    have hr : resOf (E 35 f) σ [.cell 0 true 133] = some (.agg 133 (ia (ovA (fun _ => 0) 0 133 startF))) := by
      unfold resOf
      rw [resL_RS hs.hp hv]
    obtain ⟨v, hv1, hv2⟩ := results_sound (fn := Try.f77) hs.env hs.post.rel (by kernel_rfl) hr
    refine ⟨hs.defers, v, hv2, v, rfl, ?_, _, _, hs.post⟩
    rw [show ovA (fun _ => 0) 0 133 startF = startF from ovA_whole fun i hi => by
      rw [← cur_end]
      unfold ov
      rw [show Nat.beq i 129 = false from Bool.eq_false_iff.2 fun e => by have := Nat.eq_of_beq_eq_true e; omega, cond_false]
      unfold curF
      rw [if_neg (by omega), emptyF_hi i hi]] at hv1
    simpa only [VR] using hv1
  rw [decide_eq_true hj] at r9
  have hj8 : j < 8 := by omega
  refine wp_seq (wp_cond r9 (wp_skip ?_))
  refine wp_seq (wp_block ?_)
  refine wp_seq (hs.wp fns0 prims0 mixed0 (by kernel_rfl) (st_r4 _ _ _ hj8 _ (hP j hj8) _ _ k0 k1 k7 k8) fun x f n L ι σ a W1 ho hs _ => ?_)
  cases x with
  | exit j => exact ho.elim
  | ret => exact ho.elim
  | normal =>
  obtain ⟨k0, k1, k7, k8, k2, k3, rfl⟩ := ho
  refine wp_seq (wp_region_list ?_)
  refine hs.listN 12 run0 (by kernel_rfl) (st_r5 _ _ _ _ _ _ k0 k1 k7 k8 k2 k3) fun f n L ι σ a W1 ho hs _ => ?_
  obtain ⟨k0, k1, k7, k8, k2, k3, k19, rfl⟩ := ho
  obtain ⟨bm, es, ck, hm19, hMR, hst, hbm, hs⟩ := hs.mapOut rfl .here (t := 19) (by decide) k19
  obtain ⟨hEnt, hAll⟩ := ent_of hj8 hMR
  refine hand_op rfl (exec_range (a := a) (x := .tmp 19) rfl (kt := 3) (et := 25) (by kernel_rfl) hm19 hbm.obj) ?_
  obtain ⟨ι2, hι2, hp2, hit, hs2⟩ := hs.iter (.mapIter (some bm) ck #[] ck)
  have hbm2 := hbm.go hs.dom hp2
  have hs3 := (hs2.sub (.cons _ (List.Sublist.refl _))).set 20 (x := .ptr n 0 0) (v := .pointer (some ⟨W1.heap.size, 0, none⟩)) ⟨_, hι2, Nat.le_refl _, rfl⟩
  show Code.wp _ (Code.block 2 (Code.loop _)) _ _ _
  refine wp_block (wp_loop_by (J1 W j P) (fun k' a' W' hJ => ?_) (k := (Go.leftOf es #[]).size) ⟨fun _ => false, _, bm, ck, n, #[], es, upd f 20 (.ptr n 0 0), _, ι2, _, rfl, hEnt, hAll, hst, by simp, hι2, hit, hbm2, k0, k1, k7, k8, k2, rfl, hs3⟩)
  clear hs hs2 hs3 hbm hbm2 hit hι2 hp2 hm19 hMR hst hAll hEnt k0 k1 k7 k8 k2 k3 k19
  obtain ⟨D, r, bm, ck, bi, seen, es, f, n, ι, σ, hk', hEnt, hAll, hst, hS, hι, hit, hbm, k0, k1, k7, k8, k2, k20, hs⟩ := hJ
  refine wp_seq (wp_region_list ?_)
  have r20 := hs.getP (t := 20) rfl k20 hι
  rcases hs.next (P := Try.prog) hit hbm hst (o := { dst := some 21, op := Op.next (Operand.tmp 20) false, type := 0, pos := "board.go:23", after := #[], guard := none }) (x := .tmp 20) rfl r20 with ⟨h0, h1⟩ | ⟨e, he, W2, h1, hit, hbm, hgo⟩
  · refine hand_op rfl h1 ?_
    have hs4 := hs.set 21 (x := .tup [.s (.bool false)]) (v := .tuple #[.bool false]) (by simp [VR, VRL, S.val])
    refine hs4.listN 1 run0 (by kernel_rfl) (is := [⟨some 22, none, .p (.ext (.t 21) 0)⟩]) (K := fun f n L => f 0 = .ptr 0 0 133 ∧ f 1 = .ptr 1 0 133 ∧ f 7 = .agg 8 (ia P) ∧ f 8 = .s (.int .i64 (j : Int)) ∧ f 22 = .s (.bool false) ∧ L = [(1, .sc .var 133 (ia (curF j D))), (0, .sc .var 133 (ia fun _ => 0))]) ?_ fun f n L ι σ a W1 ho hs _ => ?_
    · refine WO_ext (v := .s (.bool _)) rfl rfl ?_
      refine WO_nil ?_
      exact ⟨k0, k1, k7, k8, rfl, rfl⟩
    obtain ⟨k0, k1, k7, k8, k22, rfl⟩ := ho
    have r22 := hs.getS (t := 22) rfl k22
    show Code.wp _ (Code.seq _ _) _ _ _
    refine wp_seq (wp_cond r22 (wp_exit ?_))
    simp only [Exit.then, Exit.inBlock, if_true]
    have hD : ∀ k : Nat, (k = 0 ∨ k = 1 ∨ k = 6 ∨ k = 7) → D k = true := fun k hk => by
      obtain ⟨e, he, hke⟩ := hAll k hk
      exact hS e he (left_none h0 he) k hke
    rw [cur_next j D (hD 0 (by simp)) (hD 1 (by simp)) (hD 6 (by simp)) (hD 7 (by simp))] at hs
    refine hs.wp fns0 prims0 mixed0 (by kernel_rfl) (st_r9 _ _ _ hj8 _ _ k0 k1 k7 k8) fun x f n L ι σ a W1 ho hs _ => ?_
    cases x with
    | exit j => exact ho.elim
    | ret => exact ho.elim
    | normal =>
    obtain ⟨k0, k1, k7, k8, rfl⟩ := ho
    exact ⟨k - 1, by omega, j + 1, P, f, n, ι, σ, by omega, hP, k0, k1, k7, k8, hs⟩
  · have hm := (left_iff.1 he).1
    obtain ⟨c, Q, hc, hkey, hQ, hval⟩ := hEnt e hm
    have hc8 : c < 8 := by omega
    refine hand_op rfl h1 ?_
    have hs4 := hgo (a'.put (some 21) (.tuple #[.bool true, e.key, e.val])) (upd f 21 (.tup [.s (.bool true), .s (.int .i64 (c : Int)), .agg 2 (ia Q)])) (hs.put (some 21) ⟨[.bool true, e.key, e.val], rfl, _, _, rfl, rfl, _, _, rfl, hkey, _, _, rfl, hval _, rfl⟩) rfl
    refine hs4.listN 1 run0 (by kernel_rfl) (is := [⟨some 22, none, .p (.ext (.t 21) 0)⟩]) (K := fun f n L => f 0 = .ptr 0 0 133 ∧ f 1 = .ptr 1 0 133 ∧ f 7 = .agg 8 (ia P) ∧ f 8 = .s (.int .i64 (j : Int)) ∧ f 2 = .s (.int .i64 (j : Int)) ∧ f 20 = .ptr bi 0 0 ∧ f 22 = .s (.bool true) ∧ L = [(1, .sc .var 133 (ia (curF j D))), (0, .sc .var 133 (ia fun _ => 0))]) ?_ fun f n L ι1 σ1 a W1 ho hs hp => ?_
    · refine WO_ext (v := .s (.bool _)) rfl rfl ?_
      refine WO_nil ?_
      exact ⟨k0, k1, k7, k8, k2, k20, rfl, rfl⟩
    obtain ⟨k0, k1, k7, k8, k2, k20, k22, rfl⟩ := ho
    have hι := hp.ext _ _ hι
    have hit := hit.go hs4.dom hp
    have hbm := hbm.go hs4.dom hp
    have r22 := hs.getS (t := 22) rfl k22
    show Code.wp _ (Code.seq _ _) _ _ _
    refine wp_seq (wp_cond r22 (wp_skip ?_))
    refine wp_block (wp_seq (wp_region_list ?_))
    have r20 := hs.getP (t := 20) rfl k20 hι
    refine hand_op rfl (exec_entry hit hbm hst hm (x := .tmp 20) rfl r20) ?_
    have hs5 := hs.set 23 (x := .tup [.s (.int .i64 (c : Int)), .agg 2 (ia Q)]) (v := .tuple #[e.key, e.val]) ⟨[e.key, e.val], rfl, _, _, rfl, hkey, _, _, rfl, hval _, rfl⟩
    refine hs5.listN 5 run0 (by kernel_rfl) (st_r7 (curF j D) P j bi c Q (upd f 23 (.tup [.s (.int .i64 (c : Int)), .agg 2 (ia Q)])) n k0 k1 k7 k8 k2 k20 rfl) fun f n L ι2 σ2 a W3 ho hs hp => ?_
    obtain ⟨k0, k1, k7, k8, k2, k20, k4, k5, rfl⟩ := ho
    have hι := hp.ext _ _ hι
    have hit := hit.go hs5.dom hp
    have hbm := hbm.go hs5.dom hp
    show Code.wp _ (Code.region _ _ _) _ _ _
    refine hs.wp fns0 prims0 mixed0 (by kernel_rfl) (st_r8 _ _ _ _ _ _ _ hj8 hc8 _ _ k0 k1 k7 k8 k2 k20 k4 k5) fun x f n L ι3 σ3 a W4 ho hs' hp => ?_
    cases x with
    | exit j => exact ho.elim
    | ret => exact ho.elim
    | normal =>
    obtain ⟨k0, k1, k7, k8, k2, k20, rfl⟩ := ho
    have hs6 := hs'.sub (.cons _ (List.Sublist.refl _))
    rw [cur_step j c D _ hj8 hc8 (fun i hi => by
      rw [← hQ i hi]
      have : i = 0 ∨ i = 1 := by omega
      rcases this with rfl | rfl <;> rfl)] at hs6
    refine ⟨_, by rw [← hk']; exact left_push he, _, r, bm, ck, bi, seen.push e.born, es, f, n, ι3, σ3, rfl, hEnt, hAll, hst, ?_, hp.ext _ _ hι, hit.go hs.dom hp, hbm.go hs.dom hp, k0, k1, k7, k8, k2, k20, hs6⟩
    intro e' he' hc' k hk
    rw [Array.contains_push] at hc'
    simp only [Bool.or_eq_true] at hc'
    rcases hc' with hc' | hc'
    · rw [hS e' he' hc' k hk]; rfl
    · have hb : e'.born = e.born := by simpa using hc'
      have := same_born hst he' hm hb
      subst this
      rw [hkey] at hk
      injection hk with _ hk
      have : c = k := by omega
      subst this
      simp
/-- The prim's word. -/
theorem start_ok {args : List V} {σ : Heap} {v : V} {σ' : Heap} (h : startPrim args σ = some (v, σ')) {ι : Inj} {W : World} {av : List Value} (hR : RelW ι σ W) (hv : VRL ι args av) :
    Calls Try.prog 77 av.toArray W fun e W' => ∃ ι' v', e = .returned v' ∧ VR ι' v v' ∧ Post ι σ W ι' σ' W' := by
  unfold startPrim at h
  split at h
  · injection h with h
    injection h with h1 h2
    subst h1; subst h2
    simp only [VRL] at hv
    subst hv
    refine (start_calls W).mono ?_
    rintro e W' ⟨v', rfl, hv', ι', σ', hp⟩
    have hf : ∀ c, c < W.heap.size → W'.heap[c]? = W.heap[c]? := fun c hc => hp.frame c hc fun b p hb _ => by cases hb
    exact ⟨ι, v', rfl, by simpa only [VR] using hv', (QPost.post ⟨hp.same, .refl ι, hR.other hp.same.size fun b p hb _ => hf _ (hR.lt b p hb), ⟨[], by simp⟩, hf, fun b p hb hn => by rw [hb] at hn; cases hn⟩)⟩
  · cases h
theorem primsOK : PrimsOK Try.prog AM := by
  intro f pf hpf args σ v σ' h
  have hb : primF f = some pf := hpf
  unfold primF at hb
  cases hf : Nat.beq f 85 with
  | false =>
    rw [hf] at hb
    cases hf2 : Nat.beq f 77 with
    | false => rw [hf2] at hb; cases hb
    | true =>
      rw [hf2] at hb
      injection hb with hb
      subst hb
      have := Nat.eq_of_beq_eq_true hf2
      subst this
      exact ⟨⟨_, Try.func77, by kernel_rfl, by decide⟩, fun ι W av hR _ hv => start_ok h hR hv⟩
  | true =>
    rw [hf] at hb
    injection hb with hb
    subst hb
    have := Nat.eq_of_beq_eq_true hf
    subst this
    exact ⟨⟨_, Try.func85, by kernel_rfl, by decide⟩, fun ι W av hR _ hv => idx_ok h hR hv⟩
theorem runOK : RunOK Try.prog (Run AM) := run_ok fnsOK primsOK (by kernel_rfl)
end Go.Proofs.Ytjldefmcnppdoaa
