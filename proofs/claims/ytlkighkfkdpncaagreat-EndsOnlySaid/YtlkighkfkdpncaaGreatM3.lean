/- Texts of this seat, joined. -/
import Derived.Test.YtlkighkfkdpncaaGreatAm0
import Derived.Test.YtlkighkfkdpncaaGreatAm1
import Derived.Test.YtlkighkfkdpncaaGreatAm2
import Derived.Test.YtlkighkfkdpncaaGreatM0
import Derived.Test.YtlkighkfkdpncaaGreatM1
import Derived.Test.YtlkighkfkdpncaaGreatM2
set_option linter.unusedSimpArgs false
set_option linter.unusedVariables false
namespace Go.Proofs.YtlkighkfkdpncaaGreat
open Go Go.Am
theorem rook_ex {md : Md} (H : Nat → Int) (ha : 0 ≤ H 133 ∧ H 133 < 64) (ht : 0 ≤ H 134 ∧ H 134 < 64) (hc : H 137 = 0 ∨ H 137 = 1) (hC : 0 ≤ H 129 ∧ H 129 ≤ 15) :
  ∃ x y z, Js (H 136) (H 133) (H 134) (H 137) (H 129) x y z ∧ RB AM 122 [.ptr 0 0 138] [.sc md 138 (ia H)] (.tup [.s (.int .i64 x), .s (.int .i64 y), .s (.bool z)]) [.sc md 138 (ia H)] := by
 obtain ⟨v, σ', n', L', h1, h2, ⟨x, y, z, rfl, hr⟩, h3⟩ := pF (md := md) H ha ht hc hC
 exact ⟨x, y, z, hr, σ', h1, (h2.2.mem h3).2, ⟨_, _, _, rfl⟩, trivial⟩
structure Same (H J : Nat → Int) (B : Nat → Int) : Prop where
 lo : ∀ i, i < 128 → J i = B i
 hi : ∀ i, 128 ≤ i → J i = H i
theorem yd {md md2 : Md} (hmd : md.mut = true) {q : Nat} {c : Cp} (H X K : Nat → Int) (n : Nat) (hn : n ≤ 1000) : ∃ J, J = UJ H X K n ∧ RB AM 124 [.ptr 0 0 138, .agg 2 (ia X), .sl 1 0 n 1 c] [.sc md 138 (ia H), .sc md2 q (ia K)] (.tup []) [.sc md 138 (ia J), .sc md2 q (ia K)] :=
 ⟨_, rfl, Ew (set_run hmd H X K n hn)⟩
theorem set_two {H J : Nat → Int} {w a : Int} (e : J = UJ H (fun _ => 0) (ov (ov (fun _ => 0) (0 * 1) w) (1 * 1) a) 2) (ha : 0 ≤ a ∧ a < 64) (hw : -1 ≤ w ∧ w < 64) : Same H J (oV H w a) := by
 have h2 := E6 (H := H) (X := fun _ => 0) (K := ov (ov (fun _ => 0) (0 * 1) w) (1 * 1) a) (n := 1) (s := a) rfl ha
 refine ⟨fun i _ => ?_, fun i hi => by rw [e]; exact za 2 i hi⟩
 rw [e, h2, oV, T1]
 by_cases h : 0 ≤ w
 ·rw [E6 (H := H) (X := fun _ => 0) (K := ov (ov (fun _ => 0) (0 * 1) w) (1 * 1) a) (n := 0) (s := w) rfl (by omega), if_pos h]; rfl
 ·rw [kF (H := H) (X := fun _ => 0) (K := ov (ov (fun _ => 0) (0 * 1) w) (1 * 1) a) (n := 0) (s := w) rfl (by omega), if_neg h]; rfl
theorem JB {H J J' B X Y : Nat → Int} {t : Int} (j : Same H J B) (e : J' = UJ J X (ov (fun _ => 0) (0 * 1) t) 1) (ht : 0 ≤ t ∧ t < 64) (hx : ∀ i, i < 2 → X i = Y i) : Same H J' (ovA B (sqI t) 2 Y) := by
 have h1 := E6 (H := J) (X := X) (K := ov (fun _ => 0) (0 * 1) t) (n := 0) (s := t) rfl ht
 refine ⟨fun i hi => ?_, fun i hi => by rw [e, za 1 i hi]; exact j.hi i hi⟩
 rw [e, h1]
 exact Ug (n := 128) j.lo hx i hi
theorem two {X Y : Nat → Int} (h0 : X 0 = Y 0) (h1 : X 1 = Y 1) : ∀ i, i < 2 → X i = Y i
 | 0, _ => h0
 | 1, _ => h1
 | n + 2, h => by omega
theorem Tw {k a t c C : Int} (h : YW k a t c C ≠ 0) : a = 56 * c + 4 := by
 unfold YW at h
 split at h
 ·omega
 ·split at h
  ·omega
  ·exact absurd rfl h
theorem py {H J2 J3 J4 X : Nat → Int} {w k a t c b C x y : Int} {z : Bool} (j : Same H J2 (Tt H w a t k c b)) (e3 : J3 = UJ J2 (fun _ => 0) (ov (fun _ => 0) (0 * 1) x) 1) (e4 : J4 = UJ J3 (ov (ov (fun _ => 0) 0 4) 1 (X 1)) (ov (fun _ => 0) (0 * 1) y) 1)
  (hr : Js k a t c C x y z) (hz : z = true) (hc : c = 0 ∨ c = 1) (hx1 : X 1 = c) : Same H J4 (VA H w a t k c b (YW k a t c C)) := by
 rcases hr with ⟨hg, _, rfl, rfl⟩ | ⟨hg, _, rfl, rfl⟩ | ⟨_, hf⟩
 ·have := Tw (h := by rw [hg]; decide)
  rw [hg, VA, if_pos rfl]
  exact JB (JB j e3 (by omega) (fun _ _ => rfl)) e4 (by omega) (two rfl hx1)
 ·have := Tw (h := by rw [hg]; decide)
  rw [hg, VA, if_neg (by decide), if_pos rfl]
  exact JB (JB j e3 (by omega) (fun _ _ => rfl)) e4 (by omega) (two rfl hx1)
 ·rw [hz] at hf; cases hf
theorem uc {H J2 : Nat → Int} {w k a t c b C x y : Int} {z : Bool} (j : Same H J2 (Tt H w a t k c b)) (hr : Js k a t c C x y z) (hz : z = false) : Same H J2 (VA H w a t k c b (YW k a t c C)) := by
 rcases hr with ⟨_, h, _⟩ | ⟨_, h, _⟩ | ⟨hg, _⟩
 ·rw [hz] at h; cases h
 ·rw [hz] at h; cases h
 ·rw [hg, VA, if_neg (by decide), if_neg (by decide)]; exact j
structure Done (H J B : Nat → Int) (cs ovr hf fl : Int) : Prop where
 lo : ∀ i, i < 128 → J i = B i
 s : J 128 = H 128
 c : J 129 = cs
 o : J 130 = ovr
 h : J 131 = hf
 f : J 132 = fl
theorem done_is {H J : Nat → Int} {k c a t b C : Int} (h : Done H J (VA H (Y5 H k a t) a t k c b (YW k a t c C)) (VD C (orM (orM 0 (Xp a)) (Xp t))) (Un k a t c) (VU H k (Y5 H k a t)) (Qj H)) (i : Nat) : ovA (fun _ => 0) 0 133 (ov J 128 (Y0 (H 128))) i = V6 H k c a t b C i := by
 unfold V6
 by_cases hi : i < 133
 ·rw [XR (by omega), Nat.sub_zero]
  by_cases h1 : i < 128
  ·rw [if_pos h1, WF (by omega)]; exact h.lo i h1
  ·rw [if_neg h1]
   have hc : i = 128 ∨ i = 129 ∨ i = 130 ∨ i = 131 ∨ i = 132 := by omega
   rcases hc with rfl | rfl | rfl | rfl | rfl
   ·rfl
   ·exact h.c
   ·exact h.o
   ·exact h.h
   ·exact h.f
 ·rw [WA (by omega), if_neg (by omega), if_neg (by omega), if_neg (by omega), if_neg (by omega), if_neg (by omega), if_neg (by omega)]
theorem pC (H : Nat → Int) (ha : 0 ≤ H 133 ∧ H 133 < 64) (ht : 0 ≤ H 134 ∧ H 134 < 64) (hc : H 137 = 0 ∨ H 137 = 1) (hC : 0 ≤ H 129 ∧ H 129 ≤ 15) : WR AM 96 [.ptr 0 0 138] [.sc .var 138 (ia H)] (fun v _ L => ∃ J, v = .agg 133 (ia (V6 H (H 136) (H 137) (H 133) (H 134) (H 135) (H 129))) ∧ (0, Blk.sc .var 138 (ia J)) ∈ L) := by
 refine YI (a := a96) rfl rfl (YH _) (ZP rfl) (m := 1) rfl (Zd (Yx (Ze (Zk rfl (Q9 rfl (Ua (sH H ha ht)) rfl rfl rfl (.there .here) (Zi rfl (Ze (Zk rfl ?_))))))))
 obtain ⟨x, y, z, hr, hR⟩ := rook_ex (md := .var) H ha ht hc hC
 refine Q9 rfl (hR) rfl rfl rfl (.there .here) (Zn rfl (YC (v := .s (.int _ _)) rfl rfl (YC (v := .s (.int _ _)) rfl rfl (YC (v := .s (.bool _)) rfl rfl (Zi rfl (Zi rfl (Zj rfl (Ze (Yp rfl (Yb (WE (fun f n L => (f 0 = .ptr 0 0 138) ∧ (f 2 = .ptr 1 0 133) ∧ (f 3 = .s (.int .i64 (Y5 H (H 136) (H 133) (H 134)))) ∧ (f 4 = .s (.int .i64 x)) ∧ (f 5 = .s (.int .i64 y)) ∧ (f 6 = .s (.bool z)) ∧ (f 7 = .s (.int .i64 (Un (H 136) (H 133) (H 134) (H 137)))) ∧ (L = [(1, .sc .var 133 (ia fun _ => 0)), (0, .sc .var 138 (ia H))]) ∧ (n = 2)) ?_ (fun f nb L hI => ?_))))))))))))
 ·refine Zd (Zk rfl (Q9 rfl (Ua (rn H ha ht hc)) rfl rfl rfl (.there .here) (Yb (Yi rfl (fun h1 => ?_) (fun h1 => ?_)))))
  ·refine Yf (Zk rfl (YR rfl (Yc (o' := 133) rfl rfl rfl (Yc (o' := 133) rfl rfl rfl (Yl rfl rfl ZM rfl (Zk rfl (YR rfl (Yc (o' := 133) rfl rfl rfl (Yc (o' := 134) rfl rfl rfl (Yl rfl rfl ZM rfl (Zr rfl rfl (Zt rfl rfl (Zi rfl (Yb (⟨_, (.refl _), rfl, rfl, rfl, rfl, rfl, rfl, ?_, rfl, rfl⟩)))))))))))))))
   refine ZI ?_
   rw [Un]
   exact (if_pos (by assumption)).symm
  ·refine Yg (⟨_, (.refl _), rfl, rfl, rfl, rfl, rfl, rfl, ?_, rfl, rfl⟩)
   refine ZI ?_
   rw [Un]
   exact (if_neg (Bool.eq_false_iff.1 (by assumption))).symm
 ·obtain ⟨k0, k2, k3, k4, k5, k6, k7, rfl, rfl⟩ := hI
  refine pH 0 k0 (pH 2 k2 (pH 3 k3 (pH 4 k4 (pH 5 k5 (pH 6 k6 (pH 7 k7 (Zd (Zk rfl (YR rfl (Yc (o' := 136) rfl rfl rfl (Yo rfl rfl ZM (Yx (Yy rfl rfl rfl rfl .here (Yb (WE (fun f n L => ∃ (X : Nat → Int), (X 0 = (if H 135 = 0 then H 136 else H 135)) ∧ (X 1 = H 137) ∧ (f 0 = .ptr 0 0 138) ∧ (f 2 = .ptr 1 0 133) ∧ (f 3 = .s (.int .i64 (Y5 H (H 136) (H 133) (H 134)))) ∧ (f 4 = .s (.int .i64 x)) ∧ (f 5 = .s (.int .i64 y)) ∧ (f 6 = .s (.bool z)) ∧ (f 7 = .s (.int .i64 (Un (H 136) (H 133) (H 134) (H 137)))) ∧ (f 8 = .ptr 2 0 2) ∧ (L = [(2, .sc .var 2 (ia X)), (1, .sc .var 133 (ia fun _ => 0)), (0, .sc .var 138 (ia H))]) ∧ (n = 3)) ?_ (fun f nb L hI => ?_))))))))))))))))
  ·refine Zd (Zk rfl (YR rfl (Yc (o' := 133) rfl rfl rfl (Yc (o' := 135) rfl rfl rfl (Yl rfl rfl ZN rfl (Zq rfl (Yb (Yi rfl (fun h2 => ?_) (fun h2 => ?_))))))))) <;> simp only [NM] at h2
   ·refine Ye (Zk rfl (YR rfl (Yc (o' := 133) rfl rfl rfl (Yc (o' := 135) rfl rfl rfl (Yl rfl rfl ZN rfl (Zx rfl (Yz rfl rfl rfl rfl .here (Yb (⟨_, (.refl _), _, ?_, ?_, rfl, rfl, rfl, rfl, rfl, rfl, rfl, rfl, rfl, rfl⟩)))))))))
    · exact (if_neg (by assumption)).symm
    · rfl
   ·refine Yg (⟨_, (.refl _), _, ?_, ?_, rfl, rfl, rfl, rfl, rfl, rfl, rfl, rfl, rfl, rfl⟩)
    · exact (if_pos (by assumption)).symm
    · rfl
  ·obtain ⟨X, hx0, hx1, k0, k2, k3, k4, k5, k6, k7, k8, rfl, rfl⟩ := hI
   refine pH 0 k0 (pH 2 k2 (pH 3 k3 (pH 4 k4 (pH 5 k5 (pH 6 k6 (pH 7 k7 (pH 8 k8 (Zd (Zk rfl (YA rfl .nil (Zi rfl (Zk rfl (YR rfl (Yc (o' := 133) rfl rfl rfl (Yc (o' := 133) rfl rfl rfl (Yl (x := H 133) rfl rfl ZN (rfl) (Xd rfl (.one rfl (.one rfl .nil)) ?_)))))))))))))))))
   obtain ⟨J1, eJ1, hSJ1⟩ := yd (md := .var) (md2 := .var) (q := 2) (c := .ex 2) rfl H (fun _ => 0) (ov (ov (fun _ => 0) (0 * 1) (Y5 H (H 136) (H 133) (H 134))) (1 * 1) (H 133)) 2 (by omega)
   have j1 : Same H J1 (oV H (Y5 H (H 136) (H 133) (H 134)) (H 133)) := set_two eJ1 ha (VK ha ht)
   refine Wn (rs := [0, 3]) (Bs := [_, _]) rfl (hSJ1) rfl rfl (YE rfl) (fun _ h => h) rfl ⟨ZO, ⟨_, _, _, rfl⟩, ⟨ZL, ⟨_, _, _, rfl⟩, trivial⟩⟩ rfl rfl rfl (.cons (.there (.there (.there .here))) (.cons .here .nil)) (Yb (Yd (Yf (Zk rfl (Yn rfl rfl ZM (Zk rfl (YR rfl (Yc (o' := 133) rfl rfl rfl (Yc (o' := 134) rfl rfl rfl (Yl (x := H 134) rfl rfl ZO (j1.hi 134 (by omega)) (Xd rfl (.one rfl .nil) ?_)))))))))))
   obtain ⟨J2, eJ2, hSJ2⟩ := yd (md := .var) (md2 := .var) (q := 1) (c := .ex 1) rfl J1 X (ov (fun _ => 0) (0 * 1) (H 134)) 1 (by omega)
   have j2 : Same H J2 (Tt H (Y5 H (H 136) (H 133) (H 134)) (H 133) (H 134) (H 136) (H 137) (H 135)) := JB j1 eJ2 ht (two hx0 hx1)
   refine Wn (rs := [0, 4]) (Bs := [_, _]) rfl (hSJ2) rfl rfl (YE rfl) (fun _ h => h) rfl ⟨(.tail _ ZO), ⟨_, _, _, rfl⟩, ⟨ZL, ⟨_, _, _, rfl⟩, trivial⟩⟩ rfl rfl rfl (.cons (.there (.there (.there (.there .here)))) (.cons .here .nil)) (Yb (WE (fun f n L => ∃ (X J : Nat → Int), (3 ≤ n) ∧ (Same H J (VA H (Y5 H (H 136) (H 133) (H 134)) (H 133) (H 134) (H 136) (H 137) (H 135) (YW (H 136) (H 133) (H 134) (H 137) (H 129)))) ∧ (f 0 = .ptr 0 0 138) ∧ (f 2 = .ptr 1 0 133) ∧ (f 3 = .s (.int .i64 (Y5 H (H 136) (H 133) (H 134)))) ∧ (f 7 = .s (.int .i64 (Un (H 136) (H 133) (H 134) (H 137)))) ∧ (L = [(2, .sc .var 2 (ia X)), (1, .sc .var 133 (ia fun _ => 0)), (0, .sc .var 138 (ia J))])) ?_ (fun f nb L hI => ?_)))
   ·refine Zd (Zj rfl (Yb (Yi rfl (fun h3 => ?_) (fun h3 => ?_))))
    ·refine Zd (Zk rfl (YA rfl .nil (Zi rfl (Xd rfl (.one rfl .nil) ?_))))
     obtain ⟨J3, eJ3, hSJ3⟩ := yd (md := .var) (md2 := .var) (q := 1) (c := .ex 1) rfl J2 (fun _ => 0) (ov (fun _ => 0) (0 * 1) x) 1 (by omega)
     refine Wn (rs := [0, 5]) (Bs := [_, _]) rfl (hSJ3) rfl rfl (YE rfl) (fun _ h => h) rfl ⟨(.tail _ (.tail _ ZO)), ⟨_, _, _, rfl⟩, ⟨ZL, ⟨_, _, _, rfl⟩, trivial⟩⟩ rfl rfl rfl (.cons (.there (.there (.there (.there (.there .here))))) (.cons .here .nil)) (Yb (Ye (Zk rfl (Zy rfl (Yl rfl rfl ZO rfl (YA rfl (.one rfl (.one rfl .nil)) (Zi rfl (Xd rfl (.one rfl .nil) ?_))))))))
     obtain ⟨J4, eJ4, hSJ4⟩ := yd (md := .var) (md2 := .var) (q := 1) (c := .ex 1) rfl J3 (ov (ov (fun _ => 0) 0 4) 1 (X 1)) (ov (fun _ => 0) (0 * 1) y) 1 (by omega)
     have j4 : Same H J4 (VA H (Y5 H (H 136) (H 133) (H 134)) (H 133) (H 134) (H 136) (H 137) (H 135) (YW (H 136) (H 133) (H 134) (H 137) (H 129))) := py j2 eJ3 eJ4 hr (by assumption) hc hx1
     refine Wn (rs := [0, 6]) (Bs := [_, _]) rfl (hSJ4) rfl rfl (YE rfl) (fun _ h => h) rfl ⟨(.tail _ (.tail _ (.tail _ ZO))), ⟨_, _, _, rfl⟩, ⟨ZL, ⟨_, _, _, rfl⟩, trivial⟩⟩ rfl rfl rfl (.cons (.there (.there (.there (.there (.there (.there .here)))))) (.cons .here .nil)) (Yb ?_)
     exact ⟨_, (.cons _ (.cons _ (.cons _ (.cons _ (.refl _))))), X, J4, by omega, j4, rfl, rfl, rfl, rfl, rfl⟩
    ·refine Yg ?_
     exact ⟨_, (.cons _ (.cons _ (.refl _))), X, J2, by omega, uc j2 hr (by assumption), rfl, rfl, rfl, rfl, rfl⟩
   ·obtain ⟨X, J, hn3, hJ, k0, k2, k3, k7, rfl⟩ := hI
    refine pH 0 k0 (pH 2 k2 (pH 3 k3 (pH 7 k7 (Zd (Zk rfl (Zi rfl (YR rfl (Zx rfl (Yc (o' := 130) rfl rfl rfl (Yz rfl rfl rfl rfl (.there (.there .here)) (Yb (Yd (Yf (Zk rfl (YR rfl (Zx rfl (Yc (o' := 129) rfl rfl rfl (Yl (x := H 129) rfl rfl ZN (hJ.hi 129 (by omega)) (Zk rfl (YR rfl (Yc (o' := 133) rfl rfl rfl (Yc (o' := 133) rfl rfl rfl (Yl (x := H 133) rfl rfl ZN (hJ.hi 133 (by omega)) (Zk rfl (YR rfl (Yc (o' := 133) rfl rfl rfl (Yc (o' := 134) rfl rfl rfl (Yl (x := H 134) rfl rfl ZN (hJ.hi 134 (by omega)) (Xd rfl (.one rfl (.one rfl .nil)) ?_)))))))))))))))))))))))))))))
    refine s9 (rs := [nb]) (Bs := [_]) (av := [.sl nb 0 2 1 (.ex 2)]) (v := .s (.int .i64 (zy (ov (ov (fun _ => 0) (0 * 1) (H 133)) (1 * 1) (H 134)) 2))) rfl (Ua (uk (md := .ro) (q := 2) (c := .ex 2) (ov (ov (fun _ => 0) (0 * 1) (H 133)) (1 * 1) (H 134)) 2 (by omega))) rfl (by simp [V.refsL, V.refs, WL]) (by simp [V.refsL, V.refs]) (by simp [V.refsL, V.refs]) (by simp [rnL, V.renL, V.ren, pos]) ⟨ZL, ⟨_, _, _, rfl⟩, trivial⟩ rfl rfl rfl (Yq (r := .int .i64 (VD (H 129) _)) rfl rfl rfl (YR rfl (Zx rfl (Yc (o' := 129) rfl rfl rfl (Yz rfl rfl rfl rfl (.there (.there (.there .here))) (Ze (Zk rfl (Zk rfl (YR rfl (Zx rfl (Yc (o' := 131) rfl rfl rfl (Yl (x := H 131) rfl rfl ZO (hJ.hi 131 (by omega)) (T7 rfl rfl (Yq rfl rfl rfl (YR rfl (Zx rfl (Yc (o' := 131) rfl rfl rfl (Yz rfl rfl rfl rfl (.there (.there (.there .here))) (Yb (WE (fun f n L => ∃ (J : Nat → Int), (Done H J (VA H (Y5 H (H 136) (H 133) (H 134)) (H 133) (H 134) (H 136) (H 137) (H 135) (YW (H 136) (H 133) (H 134) (H 137) (H 129))) (VD (H 129) (orM (orM 0 (Xp (H 133))) (Xp (H 134)))) (Un (H 136) (H 133) (H 134) (H 137)) (VU H (H 136) (Y5 H (H 136) (H 133) (H 134))) (H 132)) ∧ (f 0 = .ptr 0 0 138) ∧ (f 2 = .ptr 1 0 133) ∧ (L = [(1, .sc .var 133 (ia fun _ => 0)), (0, .sc .var 138 (ia J))])) ?_ (fun f nb L hI => ?_)))))))))))))))))))))
    ·refine Zd (Zi rfl (Zq rfl (Zj rfl (Yr (t := 118) rfl (fun h4 => ?_) (fun h4 => ?_))))) <;> simp only [NM] at h4
     ·refine ZD rfl (ZC rfl (Zo rfl (Yb (Zz rfl (Ye (Zk rfl (YR rfl (Zx rfl (Yc (o' := 131) rfl rfl rfl (Yz rfl rfl rfl rfl (.there (.there (.there .here))) (Yb (⟨_, (.cons _ (.cons _ (.refl _))), _, ?_, rfl, rfl, rfl⟩))))))))))))
      refine ⟨(by intro i hi; (repeat rw [WF (by omega)]); exact hJ.lo i hi), hJ.hi 128 (by omega), rfl, rfl, ?_, hJ.hi 132 (by omega)⟩
      have hb := VK (P := H) (k := H 136) ha ht
      rw [VU]
      exact (if_pos (by omega)).symm
     ·refine Ya rfl (Zk rfl (Ya rfl (YR rfl (Ya rfl (Yc (o' := 136) rfl rfl rfl (Ya rfl (Yc (o' := 136) rfl rfl rfl (Ya rfl (Yl (x := H 136) rfl rfl ZO (hJ.hi 136 (by omega)) (Ya rfl (Zq rfl (Zo rfl (Yb (Yi rfl (fun h5 => ?_) (fun h5 => ?_))))))))))))))) <;> simp only [NM] at h5
      ·refine Ye (Zk rfl (YR rfl (Zx rfl (Yc (o' := 131) rfl rfl rfl (Yz rfl rfl rfl rfl (.there (.there (.there .here))) (Yb (⟨_, (.cons _ (.cons _ (.refl _))), _, ?_, rfl, rfl, rfl⟩)))))))
       refine ⟨(by intro i hi; (repeat rw [WF (by omega)]); exact hJ.lo i hi), hJ.hi 128 (by omega), rfl, rfl, ?_, hJ.hi 132 (by omega)⟩
       have hb := VK (P := H) (k := H 136) ha ht
       rw [VU]
       exact (if_pos (by omega)).symm
      ·refine Yg (⟨_, (.cons _ (.cons _ (.refl _))), _, ?_, rfl, rfl, rfl⟩)
       refine ⟨(by intro i hi; (repeat rw [WF (by omega)]); exact hJ.lo i hi), hJ.hi 128 (by omega), rfl, rfl, ?_, hJ.hi 132 (by omega)⟩
       have hb := VK (P := H) (k := H 136) ha ht
       rw [VU]
       exact (if_neg (by omega)).symm
    ·obtain ⟨J, hD, k0, k2, rfl⟩ := hI
     refine pH 0 k0 (pH 2 k2 (WE (fun f n L => ∃ (J : Nat → Int), (Done H J (VA H (Y5 H (H 136) (H 133) (H 134)) (H 133) (H 134) (H 136) (H 137) (H 135) (YW (H 136) (H 133) (H 134) (H 137) (H 129))) (VD (H 129) (orM (orM 0 (Xp (H 133))) (Xp (H 134)))) (Un (H 136) (H 133) (H 134) (H 137)) (VU H (H 136) (Y5 H (H 136) (H 133) (H 134))) (Qj H)) ∧ (f 0 = .ptr 0 0 138) ∧ (f 2 = .ptr 1 0 133) ∧ (L = [(1, .sc .var 133 (ia fun _ => 0)), (0, .sc .var 138 (ia J))])) ?_ (fun f nb L hI => ?_)))
     ·refine Zd (Zk rfl (YR rfl (Zx rfl (Yc (o' := 128) rfl rfl rfl (Yl (x := H 128) rfl rfl ZM (hD.s) (Zq rfl (Yb (Yi rfl (fun h6 => ?_) (fun h6 => ?_))))))))) <;> simp only [NM] at h6
      ·refine Ye (Zk rfl (Zk rfl (YR rfl (Zx rfl (Yc (o' := 132) rfl rfl rfl (Yl (x := H 132) rfl rfl ZM (hD.f) (T7 rfl rfl (Yq rfl rfl rfl (YR rfl (Zx rfl (Yc (o' := 132) rfl rfl rfl (Yz rfl rfl rfl rfl (.there .here) (Yb (⟨_, (.refl _), _, ?_, rfl, rfl, rfl⟩))))))))))))))
       refine ⟨(by intro i hi; (repeat rw [WF (by omega)]); exact hD.lo i hi), hD.s, hD.c, hD.o, hD.h, ?_⟩
       rw [Qj]
       exact (if_pos (by assumption)).symm
      ·refine Yg (⟨_, (.refl _), _, ?_, rfl, rfl, rfl⟩)
       refine ⟨(by intro i hi; (repeat rw [WF (by omega)]); exact hD.lo i hi), hD.s, hD.c, hD.o, hD.h, ?_⟩
       rw [Qj]
       exact hD.f.trans (if_neg (by assumption)).symm
     ·obtain ⟨J, hE, k0, k2, rfl⟩ := hI
      refine pH 0 k0 (pH 2 k2 (Zd (Zk rfl (Zk rfl (YR rfl (Zx rfl (Yc (o' := 128) rfl rfl rfl (Yl (x := H 128) rfl rfl ZM (hE.s) (Ys rfl (YF (VH _)) rfl rfl rfl (YR rfl (Zx rfl (Yc (o' := 128) rfl rfl rfl (Yz rfl rfl rfl rfl (.there .here) (Ze (Zk rfl (YR rfl (Zx rfl (Yn rfl rfl ZM (Yy rfl rfl rfl rfl .here (Yb (Yh (⟨_, X5 rfl rfl ZL (YS), ?_⟩))))))))))))))))))))))
      refine ⟨_, congrArg (fun g => V.agg 133 (ia g)) (funext fun i => ?_), ZM⟩
      exact done_is hE i
structure HandOf (P m H : Nat → Int) : Prop where
 lo : ∀ i, i < 129 → H i = P i
 c : H 129 = WK P
 hi : ∀ i, 130 ≤ i → i < 133 → H i = P i
 a : H 133 = m 0
 t : H 134 = m 1
 b : H 135 = m 2
 k : H 136 = P (sqI (m 0))
 s : H 137 = P (sqI (m 0) + 1)
def wM (P m : Nat → Int) : Nat → Int := ovA (ovA (ovA (fun _ => 0) 0 133 P) 133 3 m) 136 2 (dp P (sqI (m 0)))
theorem Jk {P m : Nat → Int} {i : Nat} (h : i < 133) : wM P m i = P i := by
 unfold wM
 rw [WA (by omega), WA (by omega), XR (by omega), Nat.sub_zero]
theorem sf {P m : Nat → Int} (h : 0 ≤ P 129 ∧ P 129 ≤ 15) : HandOf P m (wM P m) :=
 ⟨fun i hi => Jk (by omega), by rw [Jk (by omega), WK, if_neg (by omega)], fun i _ hi => Jk hi, rfl, rfl, rfl, rfl, rfl⟩
theorem xC {P m : Nat → Int} (h : P 129 < 0 ∨ 15 < P 129) : HandOf P m (ov (wM P m) 129 0) :=
 ⟨fun i hi => by rw [WF (by omega)]; exact Jk (by omega), by rw [WK, if_pos h]; rfl, fun i h1 hi => by rw [WF (by omega)]; exact Jk hi, rfl, rfl, rfl, rfl, rfl⟩
theorem VI {P : Nat → Int} {a t b : Int} (h : ¬ (1 ≤ P (sqI a) ∧ P (sqI a) ≤ 6 ∧ P (sqI a + 1) = P 128 ∧ (P (sqI a + 1) = 0 ∨ P (sqI a + 1) = 1) ∧ (if P (sqI a) = 1 ∧ t / 8 = 7 * (1 - P (sqI a + 1)) then 2 ≤ b ∧ b ≤ 5 else b = 0))) : Xv P a t b = false := decide_eq_false h
theorem Uv {P : Nat → Int} {a t b : Int} (h : 1 ≤ P (sqI a) ∧ P (sqI a) ≤ 6 ∧ P (sqI a + 1) = P 128 ∧ (P (sqI a + 1) = 0 ∨ P (sqI a + 1) = 1) ∧ (if P (sqI a) = 1 ∧ t / 8 = 7 * (1 - P (sqI a + 1)) then 2 ≤ b ∧ b ≤ 5 else b = 0)) : Xv P a t b = true := decide_eq_true h
theorem ti (P m : Nat → Int) : WR AM 95 [.agg 133 (ia P), .agg 3 (ia m)] [] (fun v _ L => (v = .tup [.pnil, .s (.int .i64 (Wk P (m 0) (m 1) (m 2)))] ∧ Wk P (m 0) (m 1) (m 2) ≠ 0) ∨ (Wk P (m 0) (m 1) (m 2) = 0 ∧ ∃ b H, v = .tup [.ptr b 0 138, .s (.int .i64 (Wk P (m 0) (m 1) (m 2)))] ∧ HandOf P m H ∧ (b, Blk.sc .var 138 (ia H)) ∈ L)) := by
 refine YI (a := a95) rfl rfl (YH _) (ZP rfl) (m := 0) rfl (Zd (YB rfl (YB rfl (Yp rfl (Yp rfl (Yb (Yd (Zd (Zx rfl (Yl rfl rfl ZL rfl (Ys rfl (Ju _) rfl rfl rfl (Yu (r := .bool _) rfl rfl (Zj rfl (Yr (t := 13) rfl (fun h7 => ?_) (fun h7 => ?_))))))))))))))) <;> simp only [NM] at h7
 ·try simp only [isM, decide_eq_true_eq, decide_eq_false_iff_not] at h7
  refine ZD rfl (Zo rfl (Zj rfl (ZD rfl (ZB rfl (Zo rfl (Yb (Zz rfl (Zd (Yp rfl (Yp rfl (Yb (Yh (⟨_, YK (v := .pnil) rfl (ZK rfl), ?_⟩)))))))))))))
  have he := Uk (P := P) (a := m 0) (t := m 1) (b := m 2) (by omega)
  rw [he]
  exact .inl ⟨rfl, by decide⟩
 ·try simp only [isM, decide_eq_true_eq, decide_eq_false_iff_not] at h7
  refine Ya rfl (Zy rfl (Ya rfl (Yl rfl rfl ZL rfl (Ya rfl (Ys rfl (Ju _) rfl rfl rfl (Ya rfl (Yu (r := .bool _) rfl rfl (Zo rfl (Zj rfl (Yr (t := 19) rfl (fun h8 => ?_) (fun h8 => ?_))))))))))) <;> simp only [NM] at h8
  ·try simp only [isM, decide_eq_true_eq, decide_eq_false_iff_not] at h8
   refine ZD rfl (ZB rfl (Zo rfl (Yb (Zz rfl (Zd (Yp rfl (Yp rfl (Yb (Yh (⟨_, YK (v := .pnil) rfl (ZK rfl), ?_⟩))))))))))
   have he := Uk (P := P) (a := m 0) (t := m 1) (b := m 2) (by omega)
   rw [he]
   exact .inl ⟨rfl, by decide⟩
  ·try simp only [isM, decide_eq_true_eq, decide_eq_false_iff_not] at h8
   refine Ya rfl (Zx rfl (Ya rfl (Yl rfl rfl ZL rfl (Ya rfl (Zy rfl (Ya rfl (Yl rfl rfl ZL rfl (Ya rfl (Zq rfl (Zo rfl (Yb (Yi rfl (fun h9 => ?_) (fun h9 => ?_))))))))))))) <;> simp only [NM] at h9
   ·refine Zd (Yp rfl (Yp rfl (Yb (Yh (⟨_, YK (v := .pnil) rfl (ZK rfl), ?_⟩)))))
    have he := Uk (P := P) (a := m 0) (t := m 1) (b := m 2) (by omega)
    rw [he]
    exact .inl ⟨rfl, by decide⟩
   ·refine Yg (Yd (Yf (Yn rfl rfl ZM (Yn rfl rfl ZL (Zx rfl (Yl rfl rfl ZL rfl (Zx rfl (Zv rfl rfl rfl (Yo rfl rfl ZM (YA rfl (.agg rfl (.agg rfl (.agg rfl .nil))) (YB rfl (Zk rfl (Yb (WE (fun f n L => ∃ (H : Nat → Int), (HandOf P m H) ∧ (0 ≤ m 0 ∧ m 0 < 64) ∧ (0 ≤ m 1 ∧ m 1 < 64) ∧ (m 0 ≠ m 1) ∧ (f 2 = .ptr 0 0 133) ∧ (f 3 = .ptr 1 0 3) ∧ (f 6 = .ptr 2 0 138) ∧ (L = [(2, .sc .var 138 (ia H)), (1, .sc .var 3 (ia m)), (0, .sc .var 133 (ia P))]) ∧ (n = 3)) ?_ (fun f nb L hI => ?_)))))))))))))))
    ·refine Zd (Zk rfl (YR rfl (Zx rfl (Yc (o' := 129) rfl rfl rfl (Yl (x := P 129) rfl rfl ZL (rfl) (Zq rfl (Zj rfl (Yr (t := 41) rfl (fun h10 => ?_) (fun h10 => ?_))))))))) <;> simp only [NM] at h10
     ·refine ZD rfl (ZC rfl (Zo rfl (Yb (Zz rfl (Ye (Zk rfl (YR rfl (Zx rfl (Yc (o' := 129) rfl rfl rfl (Yz rfl rfl rfl rfl .here (Yb (⟨_, (.refl _), _, ?_, by omega, by omega, by omega, rfl, rfl, rfl, rfl, rfl⟩))))))))))))
      exact xC (.inl (by assumption))
     ·refine Ya rfl (Zk rfl (Ya rfl (YR rfl (Ya rfl (Zx rfl (Ya rfl (Yc (o' := 129) rfl rfl rfl (Ya rfl (Yl (x := P 129) rfl rfl ZL (rfl) (Ya rfl (Zq rfl (Zo rfl (Yb (Yi rfl (fun h11 => ?_) (fun h11 => ?_))))))))))))))) <;> simp only [NM] at h11
      ·refine Ye (Zk rfl (YR rfl (Zx rfl (Yc (o' := 129) rfl rfl rfl (Yz rfl rfl rfl rfl .here (Yb (⟨_, (.refl _), _, ?_, by omega, by omega, by omega, rfl, rfl, rfl, rfl, rfl⟩)))))))
       exact xC (.inr (by assumption))
      ·refine Yg (⟨_, (.refl _), _, ?_, by omega, by omega, by omega, rfl, rfl, rfl, rfl, rfl⟩)
       exact sf ⟨by omega, by omega⟩
    ·obtain ⟨H, hH, ha, ht, hat, k2, k3, k6, rfl, rfl⟩ := hI
     refine pH 2 k2 (pH 3 k3 (pH 6 k6 (Zd (Zk rfl (YR rfl (Yc (o' := 136) rfl rfl rfl (Yo rfl rfl ZL (Yx (Yy rfl rfl rfl rfl .here (Yb (Yd (Zd (Zx rfl (Yl (x := P (sqI (m 0))) rfl rfl ZL (hH.k) (Zq rfl (Zj rfl (Yr (t := 60) rfl (fun h12 => ?_) (fun h12 => ?_)))))))))))))))))) <;> simp only [NM] at h12
     ·refine ZC rfl (ZB rfl (Zo rfl (Zj rfl (ZD rfl (ZB rfl (Zo rfl (Zj rfl (ZD rfl (YG rfl (YG rfl (YG rfl (ZB rfl (Zo rfl (Yb (Zz rfl (Zd (Yp rfl (Yp rfl (Yb (Yh (⟨_, YK (v := .pnil) rfl (ZK rfl), ?_⟩)))))))))))))))))))))
      have hh : Xv P (m 0) (m 1) (m 2) = false := VI (by first | omega | (split <;> omega))
      have he := Wf (by omega) hh
      rw [he]
      exact .inl ⟨rfl, by decide⟩
     ·refine Ya rfl (Zx rfl (Ya rfl (Yl (x := P (sqI (m 0))) rfl rfl ZL (hH.k) (Ya rfl (Zq rfl (Zo rfl (Zj rfl (Yr (t := 65) rfl (fun h13 => ?_) (fun h13 => ?_))))))))) <;> simp only [NM] at h13
      ·refine ZD rfl (ZB rfl (Zo rfl (Zj rfl (ZD rfl (YG rfl (YG rfl (YG rfl (ZB rfl (Zo rfl (Yb (Zz rfl (Zd (Yp rfl (Yp rfl (Yb (Yh (⟨_, YK (v := .pnil) rfl (ZK rfl), ?_⟩)))))))))))))))))
       have hh : Xv P (m 0) (m 1) (m 2) = false := VI (by first | omega | (split <;> omega))
       have he := Wf (by omega) hh
       rw [he]
       exact .inl ⟨rfl, by decide⟩
      ·refine Ya rfl (Zy rfl (Ya rfl (Yl (x := P (sqI (m 0) + 1)) rfl rfl ZL (hH.s) (Ya rfl (Yc (o' := 128) rfl rfl rfl (Ya rfl (Yl rfl rfl ZO rfl (Ya rfl (Zq rfl (Zo rfl (Zj rfl (Yr (t := 72) rfl (fun h14 => ?_) (fun h14 => ?_))))))))))))) <;> simp only [NM] at h14
       ·refine ZD rfl (YG rfl (YG rfl (YG rfl (ZB rfl (Zo rfl (Yb (Zz rfl (Zd (Yp rfl (Yp rfl (Yb (Yh (⟨_, YK (v := .pnil) rfl (ZK rfl), ?_⟩)))))))))))))
        have hh : Xv P (m 0) (m 1) (m 2) = false := VI (by first | omega | (split <;> omega))
        have he := Wf (by omega) hh
        rw [he]
        exact .inl ⟨rfl, by decide⟩
       ·refine Ya rfl (Zy rfl (Ya rfl (Yl (x := P (sqI (m 0) + 1)) rfl rfl ZL (hH.s) (Ya rfl (Zq rfl (Ya rfl (Zj rfl (Yr (t := 76) rfl (fun h15 => ?_) (fun h15 => ?_))))))))) <;> simp only [NM] at h15
        ·refine Ya rfl (Zy rfl (Ya rfl (Yl (x := P (sqI (m 0) + 1)) rfl rfl ZL (hH.s) (Ya rfl (Zq rfl (Ya rfl (Zo rfl (Zo rfl (Yb (Yi rfl (fun h16 => ?_) (fun h16 => ?_))))))))))) <;> simp only [NM] at h16
         ·refine Zd (Yp rfl (Yp rfl (Yb (Yh (⟨_, YK (v := .pnil) rfl (ZK rfl), ?_⟩)))))
          have hh : Xv P (m 0) (m 1) (m 2) = false := VI (by first | omega | (split <;> omega))
          have he := Wf (by omega) hh
          rw [he]
          exact .inl ⟨rfl, by decide⟩
         ·refine Yg (Yd (Yf (Zx rfl (Yl (x := P (sqI (m 0))) rfl rfl ZL (hH.k) (Zq rfl (Zj rfl (Yr (t := 85) rfl (fun h17 => ?_) (fun h17 => ?_)))))))) <;> simp only [NM] at h17
          ·refine Ya rfl (Zy rfl (Ya rfl (Yl rfl rfl ZN rfl (Ya rfl (Yt rfl (Rs (by omega)) rfl rfl rfl (Ya rfl (Zy rfl (Ya rfl (Yl (x := P (sqI (m 0) + 1)) rfl rfl ZL (hH.s) (Ya rfl (Zs rfl rfl (Ya rfl (X9 rfl rfl (by omega) (Ya rfl (Zq rfl (Zo rfl (Zj rfl (Yb (Yd (Zd (Zj rfl (Zj rfl (Yr (t := 96) rfl (fun h18 => ?_) (fun h18 => ?_)))))))))))))))))))))))) <;> simp only [NM] at h18
           ·refine Ya rfl (Yc (o' := 2) rfl rfl rfl (Ya rfl (Yl rfl rfl ZN rfl (Ya rfl (Zq rfl (Ya rfl (Zj rfl (Yr (t := 100) rfl (fun h19 => ?_) (fun h19 => ?_))))))))) <;> simp only [NM] at h19
            ·refine ZC rfl (ZB rfl (Ya rfl (Zo rfl (Zo rfl (Zj rfl (ZC rfl (ZB rfl (YG rfl (YG rfl (YG rfl (ZB rfl (Zo rfl (Yb (Zz rfl (Zd (Yp rfl (Yp rfl (Yb (Yh (⟨_, YK (v := .pnil) rfl (ZK rfl), ?_⟩))))))))))))))))))))
             have hh : Xv P (m 0) (m 1) (m 2) = false := VI (by first | omega | (split <;> omega))
             have he := Wf (by omega) hh
             rw [he]
             exact .inl ⟨rfl, by decide⟩
            ·refine Ya rfl (Yc (o' := 2) rfl rfl rfl (Ya rfl (Yl rfl rfl ZN rfl (Ya rfl (Zq rfl (Ya rfl (Zo rfl (Zo rfl (Zj rfl (Yr (t := 106) rfl (fun h20 => ?_) (fun h20 => ?_))))))))))) <;> simp only [NM] at h20
             ·refine ZC rfl (ZB rfl (YG rfl (YG rfl (YG rfl (ZB rfl (Zo rfl (Yb (Zz rfl (Zd (Yp rfl (Yp rfl (Yb (Yh (⟨_, YK (v := .pnil) rfl (ZK rfl), ?_⟩))))))))))))))
              have hh : Xv P (m 0) (m 1) (m 2) = false := VI (by first | omega | (split <;> omega))
              have he := Wf (by omega) hh
              rw [he]
              exact .inl ⟨rfl, by decide⟩
             ·refine Ya rfl (Zj rfl (Ya rfl (Yu (r := .bool _) rfl rfl (Ya rfl (Zj rfl (Yr (t := 109) rfl (fun h21 => ?_) (fun h21 => ?_))))))) <;> simp only [NM] at h21
              ·refine Ya rfl (Yc (o' := 2) rfl rfl rfl (Ya rfl (Yl rfl rfl ZN rfl (Ya rfl (Zq rfl (Ya rfl (Zo rfl (Zo rfl (Yb (Yi rfl (fun h22 => ?_) (fun h22 => ?_))))))))))) <;> simp only [NM] at h22
               ·refine Zd (Yp rfl (Yp rfl (Yb (Yh (⟨_, YK (v := .pnil) rfl (ZK rfl), ?_⟩)))))
                have hh : Xv P (m 0) (m 1) (m 2) = false := VI (by first | omega | (split <;> omega))
                have he := Wf (by omega) hh
                rw [he]
                exact .inl ⟨rfl, by decide⟩
               ·refine Yg (Zd (Zk rfl (Zk rfl (Yp rfl (Yb (Yh (⟨_, YK (v := .ptr _ _ _) rfl (ZK rfl), ?_⟩)))))))
                have hh : Xv P (m 0) (m 1) (m 2) = true := Uv (by refine ⟨by omega, by omega, by omega, by omega, ?_⟩; first | omega | (split <;> omega))
                have he := W8 (by omega) hh
                rw [he]
                exact .inr ⟨rfl, _, H, rfl, hH, ZM⟩
              ·refine ZC rfl (ZB rfl (Ya rfl (Zo rfl (Zo rfl (Yb (ZA rfl (Yg (Zd (Zk rfl (Zk rfl (Yp rfl (Yb (Yh (⟨_, YK (v := .ptr _ _ _) rfl (ZK rfl), ?_⟩))))))))))))))
               have hh : Xv P (m 0) (m 1) (m 2) = true := Uv (by refine ⟨by omega, by omega, by omega, by omega, ?_⟩; first | omega | (split <;> omega))
               have he := W8 (by omega) hh
               rw [he]
               exact .inr ⟨rfl, _, H, rfl, hH, ZM⟩
           ·refine ZD rfl (YG rfl (YG rfl (YG rfl (ZB rfl (Zo rfl (Zj rfl (Ya rfl (Zj rfl (Ya rfl (Yu (r := .bool _) rfl rfl (Ya rfl (Zj rfl (Yr (t := 109) rfl (fun h23 => ?_) (fun h23 => ?_)))))))))))))) <;> simp only [NM] at h23
            ·refine Ya rfl (Yc (o' := 2) rfl rfl rfl (Ya rfl (Yl rfl rfl ZN rfl (Ya rfl (Zq rfl (Ya rfl (Zo rfl (Zo rfl (Yb (Yi rfl (fun h24 => ?_) (fun h24 => ?_))))))))))) <;> simp only [NM] at h24
             ·refine Zd (Yp rfl (Yp rfl (Yb (Yh (⟨_, YK (v := .pnil) rfl (ZK rfl), ?_⟩)))))
              have hh : Xv P (m 0) (m 1) (m 2) = false := VI (by first | omega | (split <;> omega))
              have he := Wf (by omega) hh
              rw [he]
              exact .inl ⟨rfl, by decide⟩
             ·refine Yg (Zd (Zk rfl (Zk rfl (Yp rfl (Yb (Yh (⟨_, YK (v := .ptr _ _ _) rfl (ZK rfl), ?_⟩)))))))
              have hh : Xv P (m 0) (m 1) (m 2) = true := Uv (by refine ⟨by omega, by omega, by omega, by omega, ?_⟩; first | omega | (split <;> omega))
              have he := W8 (by omega) hh
              rw [he]
              exact .inr ⟨rfl, _, H, rfl, hH, ZM⟩
            ·refine ZC rfl (ZB rfl (Ya rfl (Zo rfl (Zo rfl (Yb (ZA rfl (Yg (Zd (Zk rfl (Zk rfl (Yp rfl (Yb (Yh (⟨_, YK (v := .ptr _ _ _) rfl (ZK rfl), ?_⟩))))))))))))))
             have hh : Xv P (m 0) (m 1) (m 2) = true := Uv (by refine ⟨by omega, by omega, by omega, by omega, ?_⟩; first | omega | (split <;> omega))
             have he := W8 (by omega) hh
             rw [he]
             exact .inr ⟨rfl, _, H, rfl, hH, ZM⟩
          ·refine ZE rfl (Zo rfl (Zj rfl (Yb (Yd (Zd (Zj rfl (Zj rfl (ZD rfl (YG rfl (YG rfl (YG rfl (ZB rfl (Zo rfl (Zj rfl (Ya rfl (Zj rfl (Ya rfl (Yu (r := .bool _) rfl rfl (Ya rfl (Zj rfl (Ya rfl (Yc (o' := 2) rfl rfl rfl (Ya rfl (Yl rfl rfl ZN rfl (Ya rfl (Zq rfl (Ya rfl (Zo rfl (Zo rfl ?_)))))))))))))))))))))))))))))
           refine Yb (Yi rfl (fun h25 => ?_) (fun h25 => ?_)) <;> simp only [NM] at h25
           ·refine Zd (Yp rfl (Yp rfl (Yb (Yh (⟨_, YK (v := .pnil) rfl (ZK rfl), ?_⟩)))))
            have hh : Xv P (m 0) (m 1) (m 2) = false := VI (by first | omega | (split <;> omega))
            have he := Wf (by omega) hh
            rw [he]
            exact .inl ⟨rfl, by decide⟩
           ·refine Yg (Zd (Zk rfl (Zk rfl (Yp rfl (Yb (Yh (⟨_, YK (v := .ptr _ _ _) rfl (ZK rfl), ?_⟩)))))))
            have hh : Xv P (m 0) (m 1) (m 2) = true := Uv (by refine ⟨by omega, by omega, by omega, by omega, ?_⟩; first | omega | (split <;> omega))
            have he := W8 (by omega) hh
            rw [he]
            exact .inr ⟨rfl, _, H, rfl, hH, ZM⟩
        ·refine ZC rfl (ZB rfl (Ya rfl (Zo rfl (Zo rfl (Yb (ZA rfl (Yg (Yd (Yf (Zx rfl (Yl (x := P (sqI (m 0))) rfl rfl ZL (hH.k) (Zq rfl (Zj rfl (Yr (t := 85) rfl (fun h26 => ?_) (fun h26 => ?_))))))))))))))) <;> simp only [NM] at h26
         ·refine Ya rfl (Zy rfl (Ya rfl (Yl rfl rfl ZN rfl (Ya rfl (Yt rfl (Rs (by omega)) rfl rfl rfl (Ya rfl (Zy rfl (Ya rfl (Yl (x := P (sqI (m 0) + 1)) rfl rfl ZL (hH.s) (Ya rfl (Zs rfl rfl (Ya rfl (X9 rfl rfl (by omega) (Ya rfl (Zq rfl (Zo rfl (Zj rfl (Yb (Yd (Zd (Zj rfl (Zj rfl (Yr (t := 96) rfl (fun h27 => ?_) (fun h27 => ?_)))))))))))))))))))))))) <;> simp only [NM] at h27
          ·refine Ya rfl (Yc (o' := 2) rfl rfl rfl (Ya rfl (Yl rfl rfl ZN rfl (Ya rfl (Zq rfl (Ya rfl (Zj rfl (Yr (t := 100) rfl (fun h28 => ?_) (fun h28 => ?_))))))))) <;> simp only [NM] at h28
           ·refine ZC rfl (ZB rfl (Ya rfl (Zo rfl (Zo rfl (Zj rfl (ZC rfl (ZB rfl (YG rfl (YG rfl (YG rfl (ZB rfl (Zo rfl (Yb (Zz rfl (Zd (Yp rfl (Yp rfl (Yb (Yh (⟨_, YK (v := .pnil) rfl (ZK rfl), ?_⟩))))))))))))))))))))
            have hh : Xv P (m 0) (m 1) (m 2) = false := VI (by first | omega | (split <;> omega))
            have he := Wf (by omega) hh
            rw [he]
            exact .inl ⟨rfl, by decide⟩
           ·refine Ya rfl (Yc (o' := 2) rfl rfl rfl (Ya rfl (Yl rfl rfl ZN rfl (Ya rfl (Zq rfl (Ya rfl (Zo rfl (Zo rfl (Zj rfl (Yr (t := 106) rfl (fun h29 => ?_) (fun h29 => ?_))))))))))) <;> simp only [NM] at h29
            ·refine ZC rfl (ZB rfl (YG rfl (YG rfl (YG rfl (ZB rfl (Zo rfl (Yb (Zz rfl (Zd (Yp rfl (Yp rfl (Yb (Yh (⟨_, YK (v := .pnil) rfl (ZK rfl), ?_⟩))))))))))))))
             have hh : Xv P (m 0) (m 1) (m 2) = false := VI (by first | omega | (split <;> omega))
             have he := Wf (by omega) hh
             rw [he]
             exact .inl ⟨rfl, by decide⟩
            ·refine Ya rfl (Zj rfl (Ya rfl (Yu (r := .bool _) rfl rfl (Ya rfl (Zj rfl (Yr (t := 109) rfl (fun h30 => ?_) (fun h30 => ?_))))))) <;> simp only [NM] at h30
             ·refine Ya rfl (Yc (o' := 2) rfl rfl rfl (Ya rfl (Yl rfl rfl ZN rfl (Ya rfl (Zq rfl (Ya rfl (Zo rfl (Zo rfl (Yb (Yi rfl (fun h31 => ?_) (fun h31 => ?_))))))))))) <;> simp only [NM] at h31
              ·refine Zd (Yp rfl (Yp rfl (Yb (Yh (⟨_, YK (v := .pnil) rfl (ZK rfl), ?_⟩)))))
               have hh : Xv P (m 0) (m 1) (m 2) = false := VI (by first | omega | (split <;> omega))
               have he := Wf (by omega) hh
               rw [he]
               exact .inl ⟨rfl, by decide⟩
              ·refine Yg (Zd (Zk rfl (Zk rfl (Yp rfl (Yb (Yh (⟨_, YK (v := .ptr _ _ _) rfl (ZK rfl), ?_⟩)))))))
               have hh : Xv P (m 0) (m 1) (m 2) = true := Uv (by refine ⟨by omega, by omega, by omega, by omega, ?_⟩; first | omega | (split <;> omega))
               have he := W8 (by omega) hh
               rw [he]
               exact .inr ⟨rfl, _, H, rfl, hH, ZM⟩
             ·refine ZC rfl (ZB rfl (Ya rfl (Zo rfl (Zo rfl (Yb (ZA rfl (Yg (Zd (Zk rfl (Zk rfl (Yp rfl (Yb (Yh (⟨_, YK (v := .ptr _ _ _) rfl (ZK rfl), ?_⟩))))))))))))))
              have hh : Xv P (m 0) (m 1) (m 2) = true := Uv (by refine ⟨by omega, by omega, by omega, by omega, ?_⟩; first | omega | (split <;> omega))
              have he := W8 (by omega) hh
              rw [he]
              exact .inr ⟨rfl, _, H, rfl, hH, ZM⟩
          ·refine ZD rfl (YG rfl (YG rfl (YG rfl (ZB rfl (Zo rfl (Zj rfl (Ya rfl (Zj rfl (Ya rfl (Yu (r := .bool _) rfl rfl (Ya rfl (Zj rfl (Yr (t := 109) rfl (fun h32 => ?_) (fun h32 => ?_)))))))))))))) <;> simp only [NM] at h32
           ·refine Ya rfl (Yc (o' := 2) rfl rfl rfl (Ya rfl (Yl rfl rfl ZN rfl (Ya rfl (Zq rfl (Ya rfl (Zo rfl (Zo rfl (Yb (Yi rfl (fun h33 => ?_) (fun h33 => ?_))))))))))) <;> simp only [NM] at h33
            ·refine Zd (Yp rfl (Yp rfl (Yb (Yh (⟨_, YK (v := .pnil) rfl (ZK rfl), ?_⟩)))))
             have hh : Xv P (m 0) (m 1) (m 2) = false := VI (by first | omega | (split <;> omega))
             have he := Wf (by omega) hh
             rw [he]
             exact .inl ⟨rfl, by decide⟩
            ·refine Yg (Zd (Zk rfl (Zk rfl (Yp rfl (Yb (Yh (⟨_, YK (v := .ptr _ _ _) rfl (ZK rfl), ?_⟩)))))))
             have hh : Xv P (m 0) (m 1) (m 2) = true := Uv (by refine ⟨by omega, by omega, by omega, by omega, ?_⟩; first | omega | (split <;> omega))
             have he := W8 (by omega) hh
             rw [he]
             exact .inr ⟨rfl, _, H, rfl, hH, ZM⟩
           ·refine ZC rfl (ZB rfl (Ya rfl (Zo rfl (Zo rfl (Yb (ZA rfl (Yg (Zd (Zk rfl (Zk rfl (Yp rfl (Yb (Yh (⟨_, YK (v := .ptr _ _ _) rfl (ZK rfl), ?_⟩))))))))))))))
            have hh : Xv P (m 0) (m 1) (m 2) = true := Uv (by refine ⟨by omega, by omega, by omega, by omega, ?_⟩; first | omega | (split <;> omega))
            have he := W8 (by omega) hh
            rw [he]
            exact .inr ⟨rfl, _, H, rfl, hH, ZM⟩
         ·refine ZE rfl (Zo rfl (Zj rfl (Yb (Yd (Zd (Zj rfl (Zj rfl (ZD rfl (YG rfl (YG rfl (YG rfl (ZB rfl (Zo rfl (Zj rfl (Ya rfl (Zj rfl (Ya rfl (Yu (r := .bool _) rfl rfl (Ya rfl (Zj rfl (Ya rfl (Yc (o' := 2) rfl rfl rfl (Ya rfl (Yl rfl rfl ZN rfl (Ya rfl (Zq rfl (Ya rfl (Zo rfl (Zo rfl ?_)))))))))))))))))))))))))))))
          refine Yb (Yi rfl (fun h34 => ?_) (fun h34 => ?_)) <;> simp only [NM] at h34
          ·refine Zd (Yp rfl (Yp rfl (Yb (Yh (⟨_, YK (v := .pnil) rfl (ZK rfl), ?_⟩)))))
           have hh : Xv P (m 0) (m 1) (m 2) = false := VI (by first | omega | (split <;> omega))
           have he := Wf (by omega) hh
           rw [he]
           exact .inl ⟨rfl, by decide⟩
          ·refine Yg (Zd (Zk rfl (Zk rfl (Yp rfl (Yb (Yh (⟨_, YK (v := .ptr _ _ _) rfl (ZK rfl), ?_⟩)))))))
           have hh : Xv P (m 0) (m 1) (m 2) = true := Uv (by refine ⟨by omega, by omega, by omega, by omega, ?_⟩; first | omega | (split <;> omega))
           have he := W8 (by omega) hh
           rw [he]
           exact .inr ⟨rfl, _, H, rfl, hH, ZM⟩
theorem xT {P : Nat → Int} {a t b : Int} (h : Wk P a t b = 0) : ((0 ≤ a ∧ a < 64) ∧ (0 ≤ t ∧ t < 64) ∧ a ≠ t) ∧ Xv P a t b = true := by
 unfold Wk at h
 split at h
 ·rename_i h1
  split at h
  ·rename_i h2; exact ⟨h1, h2⟩
  ·omega
 ·omega
theorem Ef {P : Nat → Int} {a t b : Int} (h : Xv P a t b = true) : P (sqI a + 1) = 0 ∨ P (sqI a + 1) = 1 := (of_decide_eq_true h).2.2.2.1
theorem gw {P : Nat → Int} {a t b : Int} (h : Xv P a t b = true) : 1 ≤ P (sqI a) ∧ P (sqI a) ≤ 6 := ⟨(of_decide_eq_true h).1, (of_decide_eq_true h).2.1⟩
theorem Jc : ovA (fun _ => 0) 0 133 (fun _ => 0) = (fun _ => 0 : Nat → Int) := by
 funext i
 by_cases h : i < 133
 ·rw [XR (by omega)]
 ·rw [WA (by omega)]
theorem JA {Q : Nat → Int} (h : ∀ i, 133 ≤ i → Q i = 0) : ovA (fun _ => 0) 0 133 Q = Q := by
 funext i
 by_cases hi : i < 133
 ·rw [XR (by omega), Nat.sub_zero]
 ·rw [WA (by omega), h i (by omega)]
theorem zk {P : Nat → Int} {k c a t b C : Int} {i : Nat} (hi : 133 ≤ i) : V6 P k c a t b C i = 0 := by
 unfold V6
 rw [if_neg (by omega), if_neg (by omega), if_neg (by omega), if_neg (by omega), if_neg (by omega), if_neg (by omega)]
theorem x6 {P : Nat → Int} {a t b : Int} {i : Nat} (hi : 133 ≤ i) : XI P a t b i = 0 := by
 unfold XI
 split
 ·exact zk hi
 ·rfl
theorem rr {P Q : Nat → Int} {w a t k c b g : Int} (h : ∀ i, i < 128 → P i = Q i) : ∀ i, i < 128 → VA P w a t k c b g i = VA Q w a t k c b g i := by
 have h1 : ∀ i, i < 128 → T1 P w i = T1 Q w i := by
  unfold T1
  split
  ·exact Ug h fun _ _ => rfl
  ·exact h
 have h3 : ∀ i, i < 128 → Tt P w a t k c b i = Tt Q w a t k c b i := Ug (Ug h1 fun _ _ => rfl) fun _ _ => rfl
 unfold VA
 split
 ·exact Ug (Ug h3 fun _ _ => rfl) fun _ _ => rfl
 ·split
  ·exact Ug (Ug h3 fun _ _ => rfl) fun _ _ => rfl
  ·exact h3
theorem jF {P Q : Nat → Int} {k c a t b C : Int} (ha : 0 ≤ a ∧ a < 64) (ht : 0 ≤ t ∧ t < 64) (h : ∀ i, i < 133 → i ≠ 129 → P i = Q i) : V6 P k c a t b C = V6 Q k c a t b C := by
 funext i
 have ht2 : Y5 P k a t = Y5 Q k a t := jO ha ht (fun i hi => h i (by omega) (by omega)) (h 130 (by omega) (by omega))
 unfold V6
 rw [ht2]
 by_cases h1 : i < 128
 ·rw [if_pos h1, if_pos h1]
  exact rr (fun i hi => h i (by omega) (by omega)) i h1
 ·rw [if_neg h1, if_neg h1, h 128 (by omega) (by omega)]
  have hh : VU P k (Y5 Q k a t) = VU Q k (Y5 Q k a t) := by unfold VU; rw [h 131 (by omega) (by omega)]
  have hf : Qj P = Qj Q := by unfold Qj; rw [h 128 (by omega) (by omega), h 132 (by omega) (by omega)]
  rw [hh, hf]
theorem HandOf.all {P m H : Nat → Int} (h : HandOf P m H) : ∀ i, i < 133 → i ≠ 129 → H i = P i := fun i hi hn => by
 by_cases hl : i < 129
 ·exact h.lo i hl
 ·exact h.hi i (by omega) hi
theorem vW {P m H : Nat → Int} (h : HandOf P m H) (he : Wk P (m 0) (m 1) (m 2) = 0) : ovA (fun _ => 0) 0 133 (V6 H (H 136) (H 137) (H 133) (H 134) (H 135) (H 129)) = XI P (m 0) (m 1) (m 2) := by
 have ⟨hs, _⟩ := xT he
 rw [JA (fun i hi => zk hi), h.a, h.t, h.b, h.k, h.s, h.c, XI, if_pos he]
 exact jF hs.1 hs.2.1 h.all
theorem rO (P m : Nat → Int) : (Wk P (m 0) (m 1) (m 2) ≠ 0 ∧ RF AM 95 [.agg 133 (ia P), .agg 3 (ia m)] (.tup [.pnil, .s (.int .i64 (Wk P (m 0) (m 1) (m 2)))])) ∨
  (Wk P (m 0) (m 1) (m 2) = 0 ∧ ∃ H, HandOf P m H ∧ RN AM 95 [.agg 133 (ia P), .agg 3 (ia m)] [] (fun b => .tup [.ptr b 0 138, .s (.int .i64 0)]) (.sc .var 138 (ia H)) []) := by
 obtain ⟨v, σ', n', L', h1, h2, h3⟩ := ti P m
 rcases h3 with ⟨rfl, he⟩ | ⟨he, b, H, rfl, hH, hm⟩
 ·exact .inl ⟨he, σ', h1⟩
 ·rw [he] at h1
  exact .inr ⟨he, H, hH, b, σ', h1, Nat.zero_le _, (h2.2.mem hm).2, trivial⟩
theorem made_ex {P m H : Nat → Int} (h : HandOf P m H) (he : Wk P (m 0) (m 1) (m 2) = 0) : ∃ J, RB AM 96 [.ptr 0 0 138] [.sc .var 138 (ia H)] (.agg 133 (ia (V6 H (H 136) (H 137) (H 133) (H 134) (H 135) (H 129)))) [.sc .var 138 (ia J)] := by
 have ⟨hs, hc⟩ := xT he
 obtain ⟨v, σ', n', L', h1, h2, J, rfl, hm⟩ := pC H (by rw [h.a]; exact hs.1) (by rw [h.t]; exact hs.2.1) (by rw [h.s]; exact Ef hc) (by rw [h.c]; exact Tp P)
 exact ⟨J, σ', h1, (h2.2.mem hm).2, ⟨_, _, _, rfl⟩, trivial⟩
theorem sr (P m : Nat → Int) : WR AM 71 [.agg 133 (ia P), .agg 3 (ia m)] [] (fun v _ _ => v = .tup [.agg 133 (ia (XI P (m 0) (m 1) (m 2))), .s (.int .i64 (Wk P (m 0) (m 1) (m 2)))]) := by
 refine YI (a := a71) rfl rfl (YH _) (ZP rfl) (m := 0) rfl (Zd (YB rfl (YB rfl (Yx (Yp rfl (Ze (Yn rfl rfl ZN (Yn rfl rfl ZM ?_))))))))
 rcases rO P m with ⟨he, hT⟩ | ⟨he, H, hH, hT⟩
 ·refine Ys rfl (hT) rfl rfl rfl (Zn rfl (YC (v := .pnil) rfl rfl (YC (v := .s (.int _ _)) rfl rfl (Yp (v := .pnil) rfl (Zi rfl (Yb (Yd (Zd (Zi rfl (Zq rfl (Yb (Yi rfl (fun h1 => ?_) (fun h1 => ?_))))))))))))) <;> simp only [NM] at h1
  ·refine Zd (YA rfl .nil (Zi rfl (Yy rfl rfl rfl rfl .here (Zi rfl (Yb (Yh (⟨_, X5 rfl rfl ZL (ZK rfl), ?_⟩)))))))
   rw [XI, if_neg he]
   exact congrArg (fun g => V.tup [V.agg 133 (ia g), V.s (.int .i64 (Wk P (m 0) (m 1) (m 2)))]) Jc
  ·exfalso; first | omega | (simp at h1)
 ·refine TI (mk := fun b => .tup [.ptr b 0 138, .s (.int .i64 0)]) (rs := []) (Bs := []) rj rfl hT rfl rfl (YE rfl) (fun _ h => h) rfl trivial rfl rfl .nil (Zn rfl (YC (v := .ptr _ _ _) rfl rfl (YC (v := .s (.int _ _)) rfl rfl (Zk rfl (Zi rfl (Yb (Yd (Zd (Zi rfl (Zq rfl (Yb (Yi rfl (fun h2 => ?_) (fun h2 => ?_))))))))))))) <;> simp only [NM] at h2
  ·exfalso; first | omega | (simp at h2)
  ·refine Yg (Zd (Zk rfl ?_))
   obtain ⟨J, hJ⟩ := made_ex hH he
   refine Q9 rfl (hJ) rfl rfl rfl .here (Yy rfl rfl rfl rfl (.there .here) (Yp rfl (Yb (Yh (⟨_, X5 rfl rfl ZM (ZK rfl), ?_⟩)))))
   rw [he, ← vW hH he]
   rfl
structure SameP (P J B : Nat → Int) : Prop where
 lo : ∀ i, i < 128 → J i = B i
 hi : ∀ i, 128 ≤ i → i < 133 → J i = P i
theorem SameP.put {P J B X Y : Nat → Int} {t : Int} (j : SameP P J B) (ht : 0 ≤ t ∧ t < 64) (hx : ∀ i, i < 2 → X i = Y i) : SameP P (ovA J (0 + t.toNat * 2) 2 X) (ovA B (sqI t) 2 Y) :=
 ⟨Ug j.lo hx, fun i h1 h2 => by rw [WA (by omega)]; exact j.hi i h1 h2⟩
theorem SameP.kind {P J B X Y : Nat → Int} {t b : Int} (j : SameP P (ovA J (0 + t.toNat * 2) 2 X) (ovA B (sqI t) 2 X)) (ht : 0 ≤ t ∧ t < 64) (h0 : Y 0 = b) (h1 : Y 1 = X 1) : SameP P (ov (ovA J (0 + t.toNat * 2) 2 X) (0 + t.toNat * 2 + 0) b) (ovA B (sqI t) 2 Y) := by
 have hsq : sqI t = 0 + t.toNat * 2 := rfl
 refine ⟨fun i hi => ?_, fun i h1 h2 => by rw [WF (by omega)]; exact j.hi i h1 h2⟩
 have hj := j.lo i hi
 by_cases q : i = 0 + t.toNat * 2 + 0
 ·subst q
  rw [XR (by omega), show 0 + t.toNat * 2 + 0 - sqI t = 0 from by show 0 + t.toNat * 2 + 0 - (0 + t.toNat * 2) = 0; omega, h0]
  show (bif Nat.beq _ _ then b else _) = b
  rw [show Nat.beq (0 + t.toNat * 2 + 0) (0 + t.toNat * 2 + 0) = true from by simp]
  rfl
 ·rw [WF q, hj]
  by_cases r : sqI t ≤ i ∧ i < sqI t + 2
  ·have e : i - sqI t = 1 := by
    have : sqI t = 0 + t.toNat * 2 := rfl
    omega
   rw [XR r, XR r, e, h1]
  ·rw [WA (by omega), WA (by omega)]
structure DoneP (P J B : Nat → Int) (s cs ovr hf fl : Int) : Prop where
 lo : ∀ i, i < 128 → J i = B i
 s : J 128 = s
 c : J 129 = cs
 o : J 130 = ovr
 h : J 131 = hf
 f : J 132 = fl
def X8 (P : Nat → Int) (a t : Int) : Bool := decide (P (sqI a) = 6 ∧ (t - a = 2 ∨ t - a = -2))
def zF (P : Nat → Int) (l : List Int) : Bool := !(l.any (Vx P (Y0 (P 128))))
def XG (P : Nat → Int) : Bool := Vq P && !Xu P (Y0 (P 128))
theorem qm (P m : Nat → Int) (ha : 0 ≤ m 0 ∧ m 0 < 64) (ht : 0 ≤ m 1 ∧ m 1 < 64) : WR AM 69 [.agg 133 (ia P), .agg 3 (ia m)] [] (fun v _ _ => v = .s (.bool (X8 P (m 0) (m 1)))) := by
 refine YI (a := a69) rfl rfl (YH _) (ZP rfl) (m := 0) rfl (Zd (YB rfl (YB rfl (Yp rfl (Ze (Zy rfl (Yl rfl rfl ZL rfl (Zx rfl (Yl rfl rfl ZL rfl (Zs rfl rfl (Zi rfl (Ze (Zx rfl (Yl rfl rfl ZL rfl (Zx rfl (Zx rfl (Zv rfl rfl rfl (Yc rfl rfl rfl (Yl (x := P (sqI (m 0))) rfl rfl ZM (congrArg P (by have hq : sqI (m 0) = 0 + (m 0).toNat * 2 := rfl; omega)) (Zq rfl (Zj rfl (Yr (t := 19) rfl (fun h1 => ?_) (fun h1 => ?_))))))))))))))))))))))) <;> simp only [NM] at h1
 ·refine Ya rfl (Zi rfl (Ya rfl (Zq rfl (Ya rfl (Zj rfl (Yr (t := 22) rfl (fun h2 => ?_) (fun h2 => ?_))))))) <;> simp only [NM] at h2
  ·refine ZC rfl (Ya rfl (Zo rfl (Zo rfl (Zj rfl (Zf rfl ?_)))))
   unfold X8
   (rw [decide_eq_true (by omega)]; rfl)
  ·refine Ya rfl (Zi rfl (Ya rfl (Zq rfl (Ya rfl (Zo rfl (Zo rfl (Zj rfl (Zf rfl ?_))))))))
   unfold X8
   (refine congrArg (fun b => V.s (.bool b)) ?_; rw [Bool.eq_iff_iff]; simp only [beq_iff_eq, decide_eq_true_eq]; omega)
 ·refine ZC rfl (ZB rfl (YG rfl (YG rfl (ZB rfl (Zo rfl (Zj rfl (Zf rfl ?_)))))))
  unfold X8
  (rw [decide_eq_false (by omega)]; rfl)
theorem safe_rd (P : Nat → Int) (l : List Int) (hlen : l.length ≤ 1000000) : RdR AM 70 1 [.agg 133 (ia P)] [] l (.s (.bool (zF P l))) := by
 refine ER fun v Bs hc => ?_
 refine YI (a := a70) rfl rfl (YH _) (ZP rfl) rfl ?_ (by first | rfl | (cases hc <;> rfl))
 have hr0 := hc.rx
 rw [show Xj 0 Bs = Xj 0 Bs ++ [] from (List.append_nil _).symm]
 generalize hown : Xj 0 Bs = own0 at hr0 ⊢
 refine Zd (YB rfl (Yp rfl (Yb (Yd (Yf (Zx rfl (Yn rfl rfl ZL (Zx rfl (Yc (o' := 128) rfl rfl rfl (Yl rfl rfl ZL rfl (Yt rfl (YF (VH _)) rfl rfl rfl (Yp (v := v) rfl (VF (caps := []) rfl (kY P (Y0 (P 128)) l hlen) rfl (hr0) (fun _ h => (.tail _ (List.mem_append_left _ h))) rfl rfl rfl (Yu (r := .bool _) rfl rfl (Zj rfl (Zf rfl ?_))))))))))))))))
 exact ⟨rfl, (fun _ h => (.tail _ h))⟩
theorem Qg (P : Nat → Int) : WR AM 19 [.agg 133 (ia P)] [] (fun v _ _ => v = .s (.bool (XG P))) := by
 refine YI (a := a19) rfl rfl (YH _) (ZP rfl) (m := 0) rfl (Zd (YB rfl (Yp rfl (Yb (Yd (Yf (Yn rfl rfl ZL (Ys rfl (YF (sK _)) rfl rfl rfl (Zj rfl (Yr (t := 5) rfl (fun h3 => ?_) (fun h3 => ?_)))))))))))
 ·refine Ya rfl (Yn rfl rfl ZL (Ya rfl (Yc (o' := 128) rfl rfl rfl (Ya rfl (Yl rfl rfl ZL rfl (Ya rfl (Yt rfl (YF (VH _)) rfl rfl rfl (Ya rfl (Ys rfl (EM _ _) rfl rfl rfl (Ya rfl (Yu (r := .bool _) rfl rfl (Zo rfl (Zj rfl (Zf rfl ?_))))))))))))))
  unfold XG
  (rw [show Vq P = true by assumption]; rfl)
 ·refine Z9 rfl rfl (ZD rfl (ZB rfl (Zo rfl (Zj rfl (Zf rfl ?_)))))
  unfold XG
  (rw [show Vq P = false by assumption]; rfl)
theorem tH {g : FuncId} {o z : Nat} : One fun b => .fn g [.ptr b o z] := ⟨fun _ => by simp [V.refs, V.refsL], fun h b => by cases e : h b <;> simp [V.ren, V.renL, e]⟩
theorem jall_rn (P : Nat → Int) : RN AM 52 [.agg 133 (ia P)] [] (fun b => .fn 67 [.ptr b 0 133]) (.sc .var 133 (ia P)) [] := uq (by
 refine YI (a := a52) rfl rfl (YH _) (ZP rfl) (m := 0) rfl (Yd (Ye (YB rfl (Yp rfl (Yb (Yd (Ye (Qz rfl (Yp rfl (Yb ?_))))))))))
 exact Yh ⟨_, YK rfl YS, 0, rfl, .head _⟩)
theorem of_rn (P : Nat → Int) (h : XG P = true) : RN AM 32 [.agg 133 (ia P)] [] (fun b => .fn 67 [.ptr b 0 133]) (.sc .var 133 (ia (ovA (fun _ => 0) 0 133 P))) [] := uq (by
 refine YI (a := a32) rfl rfl (YH _) (ZP rfl) (m := 0) rfl (Yd (Ye (YB rfl (Yp rfl (Yb (Yd (Yd (Ye (Yn rfl rfl ZL (Ys rfl (YF (Qg P)) rfl rfl rfl ?_))))))))))
 rw [h]
 refine Yu (r := .bool false) rfl rfl (Yb (Yi rfl (fun h => nomatch h) (fun _ => Yg (Yd (Ye (Yn rfl rfl ZL (YA (Q := ovA (fun _ => 0) 0 133 P) rfl (.agg rfl .nil) (TI (rs := []) (Bs := []) (caps := []) (av := [.agg 133 (ia (ovA (fun _ => 0) 0 133 P))]) tH rfl (jall_rn _) rfl rfl (YE rfl) (fun _ h => h) rfl trivial rfl rfl .nil (Yp rfl (Yb ?_))))))))))
 exact Yh ⟨_, YK rfl YS, 1, rfl, .head _⟩)
theorem of_none (P : Nat → Int) (h : XG P = false) : RF AM 32 [.agg 133 (ia P)] (.fn 51 []) := YF (by
 refine YI (a := a32) rfl rfl (YH _) (ZP rfl) (m := 0) rfl (Yd (Ye (YB rfl (Yp rfl (Yb (Yd (Yd (Ye (Yn rfl rfl ZL (Ys rfl (YF (Qg P)) rfl rfl rfl ?_))))))))))
 rw [h]
 refine Yu (r := .bool true) rfl rfl (Yb (Zz rfl (Yd (Ye (Yp rfl (Yb ?_))))))
 exact Yh ⟨_, YK rfl YS, rfl⟩)
def VZ (g0 g4 : Nat → S) (c : Nat) : List V := [.agg 133 g0, .ptr 1 0 133, .ptr 2 0 1, .undef, .agg 133 g4, .fn 67 [.ptr c 0 133], .undef, .undef, .undef, .undef, .undef, .undef, .undef]
section
variable (g0 g4 g1 : Nat → S) (Q : Nat → Int)
noncomputable def Tm (c st : Nat) : Blk := .lp 607 Q8 (VZ g0 g4 c) st
theorem tW {Q : Nat → Int} {x y z : Int} (h0 : Q 0 = x) (h1 : Q 1 = y) (h2 : Q 2 = z) : ∀ i, i < [x, y, z].length → ovA (fun _ => 0) (0 * 3) 3 Q i = [x, y, z].getD i 0 := fun i hi => by have := U7 h0 h1 h2 i hi; rwa [Nat.zero_add] at this
theorem Dt (M Y : Nat → Int) :
  WR AM 607 [.pan .undef, .yv 0, .agg 3 (ia M), .agg 133 (ia Y)] [Tm g0 g4 3 0, .sc .var 133 g1, .vs .var [.snil], .sc .var 133 (ia Q)] (fun v n L => v = .s (.bool true) ∧ TK L [Tm g0 g4 3 0, .sc .var 133 g1] [.sc .var 133 (ia Q)] [M 0, M 1, M 2]) := by
 refine RC (N := 13) (B := B20) (f := YH (((VZ g0 g4 3).set 6 (.agg 3 (ia M))).set 7 (.agg 133 (ia Y)))) (caps := VZ g0 g4 3) rfl rfl rfl (Ek rfl) rfl (Ye (Yx (Yy rfl rfl rfl rfl .here (Yb (⟨607, Q8, VZ g0 g4 3, rfl, ?_⟩)))))
 refine Yj (Ye (UX (v := .snil) rfl rfl ZO rfl (Yn rfl rfl ZL (Wm rfl (.agg rfl .nil) (R9 (c := [M 0, M 1, M 2]) rfl (Rw.nil rfl) rfl (.row rfl (tW (Q := ovA (fun _ => 0) 0 3 M) rfl rfl rfl)) (KG ZL) (Dr.here (own := [])) (by decide) (YE rfl) (fun v3 own3 n3 hr3 hn3 => Ru (b := 2) (u := .snil) (v := v3) rfl rfl hr3.isrow (.appR _ (.appR _ (.there (.there (.there (.there .here)))))) (Ub (L' := own3 ++ [(0, .lp 607 Q8 (VZ g0 g4 3) 1), (1, .sc .var 133 g1), (2, .vs .var [v3]), (3, .sc .var 133 (ia Q))]) (List.Sublist.append (.refl _) (List.sublist_append_of_sublist_right (.cons _ (.cons _ (.refl _))))) (V7 List.perm_append_comm (Yb ⟨607, Q8, VZ g0 g4 3, rfl, rfl, ?_⟩)))))))))
 have h4 : ∀ p ∈ own3, 4 < p.1 := fun p hp => hn3 p hp (4, _) ZM
 rw [List.nil_append] at hr3
 refine K0 hr3 ⟨.head _, .tail _ ZL, .tail _ ZM, .tail _ ZN, trivial⟩ (fun p hp => ⟨.tail _ (.tail _ (.tail _ (.tail _ ?_))), Nat.le_of_lt (h4 p hp)⟩)
 show p ∈ setL 0 _ own3
 rw [Kv (fun p hp => by have := h4 p hp; omega)]; exact hp
theorem Dq (M Y : Nat → Int) (l : List Int) (m q : Nat) (F : Nat → Int) (hlm : l.length = m * 3) (hF : ∀ i, i < l.length → F i = l.getD i 0) (hll : l.length ≤ 1000000) :
  WR AM 607 [.pan .undef, .yv 0, .agg 3 (ia M), .agg 133 (ia Y)] [Tm g0 g4 4 0, .sc .var 133 g1, Vf .var 3 m 3, .sc .grow q (ia F), .sc .var 133 (ia Q)] (fun v n L => v = .s (.bool true) ∧ TK L [Tm g0 g4 4 0, .sc .var 133 g1] [.dead, .sc .var 133 (ia Q)] (l ++ [M 0, M 1, M 2])) := by
 refine RC (N := 13) (B := B20) (f := YH (((VZ g0 g4 4).set 6 (.agg 3 (ia M))).set 7 (.agg 133 (ia Y)))) (caps := VZ g0 g4 4) rfl rfl rfl (Ek rfl) rfl (Ye (Yx (Yy rfl rfl rfl rfl .here (Yb (⟨607, Q8, VZ g0 g4 4, rfl, ?_⟩)))))
 refine Yj (Ye (UX (v := .sl 3 0 m 3 .whole) rfl rfl ZO rfl (Yn rfl rfl ZL (Wm rfl (.agg rfl .nil) (R9 (c := [M 0, M 1, M 2]) rfl (Rw.row hlm hF) rfl (.row rfl (tW (Q := ovA (fun _ => 0) 0 3 M) rfl rfl rfl)) (KG ZL) (.there (.there (.there (.there (.there .here))))) (by decide) (by simp only [List.length_cons, List.length_nil]; omega) (fun v3 own3 n3 hr3 hn3 => Ru (b := 2) (u := .sl 3 0 m 3 .whole) (v := v3) rfl rfl hr3.isrow (.appR _ (.there (.appR _ (.there (.there (.there (.there .here))))))) (Ub (L' := own3 ++ [(3, .dead), (0, .lp 607 Q8 (VZ g0 g4 4) 1), (1, .sc .var 133 g1), (2, .vs .var [v3]), (4, .sc .var 133 (ia Q))]) (List.Sublist.append (.refl _) (.cons_cons _ (.cons _ (.cons _ (.refl _))))) (V7 List.perm_append_comm (Yb ⟨607, Q8, VZ g0 g4 4, rfl, rfl, ?_⟩)))))))))
 have h4 : ∀ p ∈ own3, 5 < p.1 := fun p hp => hn3 p hp (5, _) ZM
 refine K0 hr3 ⟨.tail _ ZL, .tail _ ZM, .tail _ ZN, .head _, .tail _ ZO, trivial⟩ (fun p hp => ⟨.tail _ (.tail _ (.tail _ (.tail _ (.tail _ ?_)))), Nat.le_of_lt (h4 p hp)⟩)
 show p ∈ setL 0 _ own3
 rw [Kv (fun p hp => by have := h4 p hp; omega)]; exact hp
end
def Wi (P : Nat → Int) (m : Mv) : Bool := !(X8 P m.1 m.2.1 && !zF P [m.1, (m.1 + m.2.1) / 2]) && (decide (Wk P m.1 m.2.1 m.2.2 = 0) && !Xu (XI P m.1 m.2.1 m.2.2) (P 128))
def yj (P : Nat → Int) : List Mv := (Td P).filter (Wi P)
def mvX (F : Nat → Int) (o : Nat) : Nat → Int := ovA (fun _ => 0) 0 3 (fun j => F (o + j))
theorem mvX_at {F : Nat → Int} {l : List Mv} {i : Nat} (hF : ∀ j, j < (YV l).length → F j = (YV l).getD j 0) (hi : i < l.length) : mvX F (0 + (i : Int).toNat * 3) 0 = (l.getD i (0, 0, 0)).1 ∧ mvX F (0 + (i : Int).toNat * 3) 1 = (l.getD i (0, 0, 0)).2.1 ∧ mvX F (0 + (i : Int).toNat * 3) 2 = (l.getD i (0, 0, 0)).2.2 := by
 obtain ⟨e1, e2, e3⟩ := Jo hi
 have hb : 3 * i + 2 < (YV l).length := by rw [Xm]; omega
 rw [← hF _ (by omega)] at e1 e2 e3
 refine ⟨?_, ?_, ?_⟩
 ·rw [← e1]; show F _ = F _; exact congrArg F (by omega)
 ·rw [← e2]; show F _ = F _; exact congrArg F (by omega)
 ·rw [← e3]; show F _ = F _; exact congrArg F (by omega)
theorem toM_bd {s k c t : Int} {m : Mv} (hs : 0 ≤ s ∧ s < 64) (ht : 0 ≤ t ∧ t < 64) (h : m ∈ toM s k c t) : (0 ≤ m.1 ∧ m.1 < 64) ∧ (0 ≤ m.2.1 ∧ m.2.1 < 64) := by
 unfold toM at h
 split at h
 ·simp only [List.mem_cons, List.not_mem_nil, or_false] at h
  rcases h with rfl | rfl | rfl | rfl <;> exact ⟨hs, ht⟩
 ·rw [List.mem_singleton.1 h]; exact ⟨hs, ht⟩
theorem allS_bd {P : Nat → Int} {m : Mv} (h : m ∈ Td P) : (0 ≤ m.1 ∧ m.1 < 64) ∧ (0 ≤ m.2.1 ∧ m.2.1 < 64) := by
 have h := (UP _).mem_iff.1 h
 unfold UG X4 at h
 rw [List.mem_flatMap] at h
 obtain ⟨s, hs, h⟩ := h
 rw [List.mem_map] at hs
 obtain ⟨k, hk, rfl⟩ := hs
 have hk := List.mem_range.1 hk
 split at h
 ·unfold VM at h
  rw [List.mem_flatMap] at h
  obtain ⟨t, ht, h⟩ := h
  exact toM_bd (by constructor <;> omega) (QL ht) h
 ·cases h
theorem ru (P : Nat → Int) : (Td P).length ≤ 16896 := by
 have := RU P 64
 rw [show (Td P).length = _ from (UP _).length_eq]; omega
theorem getD_mv {l : List Mv} {i : Nat} (hi : i < l.length) : l.getD i (0, 0, 0) ∈ l := by
 rw [List.getD_eq_getElem?_getD, List.getElem?_eq_getElem hi]
 exact List.getElem_mem hi
theorem j5 {P X : Nat → Int} {l : List Mv} {i : Nat} (hi : i < l.length) (h0 : X 0 = (l.getD i (0, 0, 0)).1) (h1 : X 1 = (l.getD i (0, 0, 0)).2.1) (h2 : X 2 = (l.getD i (0, 0, 0)).2.2) (h : Wi P (l.getD i (0, 0, 0)) = true) : YV ((l.take i).filter (Wi P)) ++ [X 0, X 1, X 2] = YV ((l.take (i + 1)).filter (Wi P)) := by
 rw [W5 (0, 0, 0) hi, List.filter_append, List.filter_cons, h, if_pos rfl, QA, h0, h1, h2]; rfl
theorem EN {P : Nat → Int} {l : List Mv} {i : Nat} (hi : i < l.length) (h : Wi P (l.getD i (0, 0, 0)) = false) : YV ((l.take (i + 1)).filter (Wi P)) = YV ((l.take i).filter (Wi P)) := by
 rw [W5 (0, 0, 0) hi, List.filter_append, List.filter_cons, h, if_neg (by decide)]; simp
theorem Dp (P : Nat → Int) {l : List Mv} (i : Nat) : (YV ((l.take i).filter (Wi P))).length ≤ l.length * 3 := by
 have h1 := List.length_filter_le (Wi P) (l.take i)
 rw [List.length_take] at h1
 rw [Xm]; omega
theorem ya {P : Nat → Int} {m : Mv} (h1 : X8 P m.1 m.2.1 = true) (h2 : zF P [m.1, (m.1 + m.2.1) / 2] = false) : Wi P m = false := by unfold Wi; rw [h1, h2]; rfl
theorem zn {P : Nat → Int} {m : Mv} (h : Wk P m.1 m.2.1 m.2.2 ≠ 0) : Wi P m = false := by unfold Wi; rw [decide_eq_false h]; simp
theorem zJ {P : Nat → Int} {m : Mv} (h : Xu (XI P m.1 m.2.1 m.2.2) (P 128) = true) : Wi P m = false := by unfold Wi; rw [h]; simp
theorem leg_t {P : Nat → Int} {m : Mv} (h1 : X8 P m.1 m.2.1 = false ∨ zF P [m.1, (m.1 + m.2.1) / 2] = true) (h2 : Wk P m.1 m.2.1 m.2.2 = 0) (h3 : Xu (XI P m.1 m.2.1 m.2.2) (P 128) = false) : Wi P m = true := by
 unfold Wi
 rw [decide_eq_true h2, h3]
 rcases h1 with h | h <;> rw [h] <;> simp
theorem iter_mv (g0 g4 g1 : Nat → S) (P : Nat → Int) : WR AM 67 [.yv 0, .ptr 3 0 133] [(Tm g0 g4 3 0), .sc .var 133 g1, .vs .var [.snil], .sc .var 133 (ia P)] (fun v _ L => v = .tup [] ∧ TK L [(Tm g0 g4 3 0), .sc .var 133 g1] [.sc .var 133 (ia P)] (YV (yj P))) := by
 refine YI (a := a67) rfl rfl (YH _) (ZP rfl) (m := 4) rfl (Zd (Zx rfl (Yn rfl rfl ZO ?_)))
 obtain ⟨l, hleq⟩ : ∃ l, l = Td P := ⟨_, rfl⟩
 have hall := all_rt P
 rw [← hleq] at hall
 have hlen := ru P
 rw [← hleq] at hlen
 refine YD rfl (hall) rfl rfl (fun v1 own1 n1 hr1 => Vn rfl hr1.rx (by decide) (Xm l) (Yp rfl (Yb (Yj (Xe (List.Sublist.append (.refl _) (.refl _)) (Xg (fun m f _ L => ∃ (i : Nat) (vO : V) (ownO : HA), (i ≤ l.length) ∧ (m = l.length - i) ∧ (∀ p ∈ ownO, 4 ≤ p.1) ∧ (Rw 3 (YV ((l.take i).filter (Wi P))) vO ownO) ∧ (f 0 = .yv 0) ∧ (f 1 = .ptr 3 0 133) ∧ (f 9 = v1) ∧ (f 10 = .s (.int .i64 l.length)) ∧ (f 11 = .s (.int .i64 i)) ∧ (L = (ownO ++ (own1 ++ [(0, (Tm g0 g4 3 0)), (1, .sc .var 133 g1), (2, .vs .var [vO]), (3, .sc .var 133 (ia P))])))) (fun m f nb L hI => ?_) (l.length) (⟨0, .snil, [], by omega, by omega, (fun p (hp : p ∈ ([] : HA)) => (by cases hp)), Rw.nil rfl, rfl, rfl, rfl, rfl, rfl, rfl⟩)))))))
 obtain ⟨i, vO, ownO, hi, hm, hgO, hrO, k0, k1, k9, k10, k11, rfl⟩ := hI
 refine pH 0 k0 (pH 1 k1 (pH 9 k9 (pH 10 k10 (pH 11 k11 (Zd (Zq rfl (Yb (Yd (Yi rfl (fun h1 => ?_) (fun h1 => ?_)))))))))) <;> simp only [NM] at h1
 ·refine Yg (Yd (Yj (Zd ?_)))
  obtain ⟨b1, q1, md1, c1, F1, rfl, rfl, hF1⟩ := hr1.rx.at (by decide) (Xm l) (by omega)
  refine Zw rfl rfl (Yo rfl rfl (List.mem_append_right _ ZL) (Yx (Yy rfl rfl rfl rfl .here (Yb (Yd (Zd ?_))))))
  obtain ⟨hx0, hx1, hx2⟩ := mvX_at hF1 (i := i) (by omega)
  have hbd : (0 ≤ (l.getD i (0, 0, 0)).1 ∧ (l.getD i (0, 0, 0)).1 < 64) ∧ (0 ≤ (l.getD i (0, 0, 0)).2.1 ∧ (l.getD i (0, 0, 0)).2.1 < 64) := allS_bd (P := P) (by rw [← hleq]; exact getD_mv (by omega))
  have hcas := YF (qm P (mvX F1 (0 + (i : Int).toNat * 3)) (by omega) (by omega))
  rw [hx0, hx1] at hcas
  have hmove := YF (sr P (mvX F1 (0 + (i : Int).toNat * 3)))
  rw [hx0, hx1, hx2] at hmove
  have hid : ovA (fun _ => 0) 0 133 (XI P (l.getD i (0, 0, 0)).1 (l.getD i (0, 0, 0)).2.1 (l.getD i (0, 0, 0)).2.2) = (XI P (l.getD i (0, 0, 0)).1 (l.getD i (0, 0, 0)).2.1 (l.getD i (0, 0, 0)).2.2) := JA (fun i hi => x6 hi)
  have hchk := EM (ovA (fun _ => 0) 0 133 (XI P (l.getD i (0, 0, 0)).1 (l.getD i (0, 0, 0)).2.1 (l.getD i (0, 0, 0)).2.2)) (P 128)
  rw [show Xu (ovA (fun _ => 0) 0 133 (XI P (l.getD i (0, 0, 0)).1 (l.getD i (0, 0, 0)).2.1 (l.getD i (0, 0, 0)).2.2)) (P 128) = Xu (XI P (l.getD i (0, 0, 0)).1 (l.getD i (0, 0, 0)).2.1 (l.getD i (0, 0, 0)).2.2) (P 128) by rw [hid]] at hchk
  refine Yn rfl rfl (.tail _ (List.mem_append_right _ (.tail _ ZO))) (Yn rfl rfl ZL (Ys rfl (hcas) rfl rfl rfl (Zj rfl (Yr (t := 18) rfl (fun h2 => ?_) (fun h2 => ?_)))))
  ·refine Ya rfl (Yn rfl rfl (.tail _ (List.mem_append_right _ (.tail _ ZO))) (Ya rfl (Zx rfl (Ya rfl (Yl (x := (l.getD i (0, 0, 0)).1) rfl rfl ZL (hx0) (Ya rfl (Zx rfl (Ya rfl (Yl (x := (l.getD i (0, 0, 0)).1) rfl rfl ZL (hx0) (Ya rfl (Zy rfl (Ya rfl (Yl (x := (l.getD i (0, 0, 0)).2.1) rfl rfl ZL (hx1) (Ya rfl (Zr rfl rfl (Ya rfl (Zt rfl rfl (Ya rfl (Xd rfl (.one rfl (.one rfl .nil)) (Ya rfl (VF (caps := []) rfl (safe_rd P [(l.getD i (0, 0, 0)).1, ((l.getD i (0, 0, 0)).1 + (l.getD i (0, 0, 0)).2.1) / 2] (YE rfl)) rfl ((.row rfl wH)) (KG ZL) rfl rfl rfl (Ya rfl (Yu (r := .bool _) rfl rfl (Zo rfl (Yb (Yi rfl (fun h3 => ?_) (fun h3 => ?_))))))))))))))))))))))))))) <;> simp only [NM] at h3
   ·refine YZ (Xc (Ye (Zr rfl rfl (Zi rfl (Yb (⟨l.length - (i + 1), _, by omega, (.cons _ (.cons _ (List.Sublist.append (.refl _) (.refl _)))), i + 1, _, _, by omega, rfl, hgO, ?_, rfl, rfl, rfl, rfl, rfl, rfl⟩))))))
    (rw [EN (by omega) (by first | exact ya (by assumption) (by assumption) | exact zn (by assumption) | exact zJ (by assumption))]; exact hrO)
   ·refine Yg (Zd (Zx rfl (Yn rfl rfl (.tail _ (.tail _ (List.mem_append_right _ (.tail _ ZO)))) (Yn rfl rfl ZM (Ys rfl (hmove) rfl rfl rfl (Zn rfl (YC (v := .agg _ _) rfl rfl (YC (v := .s (.int _ _)) rfl rfl (Yx (Yy rfl rfl rfl rfl .here (Zi rfl (Yb (Yd (K5 (Ki (l1 := [_, _, _, _, _, _, _, _, _, _, _, _, _, _]) (l2 := [_, _, _]) (Zi rfl (Zq rfl (Zj rfl (Yr (t := 41) rfl (fun h4 => ?_) (fun h4 => ?_)))))))))))))))))))) <;> simp only [NM] at h4
    ·refine Ya rfl (Yn rfl rfl ZL (Ya rfl (Zx rfl (Ya rfl (Yc (o' := 128) rfl rfl rfl (Ya rfl (Yl rfl rfl (.tail _ (.tail _ (.tail _ (List.mem_append_right _ (.tail _ ZO))))) rfl (Ya rfl (Ys rfl (hchk) rfl rfl rfl (Ya rfl (Yu (r := .bool _) rfl rfl (Zo rfl (Zj rfl (Yr (t := 49) rfl (fun h5 => ?_) (fun h5 => ?_))))))))))))))) <;> simp only [NM] at h5
     ·refine Ya rfl (Yp (v := .yv _) rfl (Ya rfl (Yn rfl rfl ZN (Ya rfl (Yn rfl rfl ZL (Yb (Qn (.cons _ (.cons _ (.cons _ (List.Sublist.append (.refl _) (.refl _))))) (Eo rfl ?_))))))))
      have hll := Dp P (l := l) i
      refine To (caps := VZ g0 g4) (xa := [.agg 3 (ia (mvX F1 (0 + (i : Int).toNat * 3))), .agg 133 (ia (ovA (fun _ => 0) 0 133 (XI P (l.getD i (0, 0, 0)).1 (l.getD i (0, 0, 0)).2.1 (l.getD i (0, 0, 0)).2.2)))]) (L0 := [_]) rfl (fun _ => rfl) rfl rfl (fun _ _ _ => rfl) (YE rfl) (YE rfl) rfl rfl hrO (List.Perm.append_left _ (List.perm_append_comm (l₁ := [_]) (l₂ := [_, _, _, _]))) (fun e => by have h := Dt g0 g4 g1 P (mvX F1 (0 + (i : Int).toNat * 3)) (ovA (fun _ => 0) 0 133 (XI P (l.getD i (0, 0, 0)).1 (l.getD i (0, 0, 0)).2.1 (l.getD i (0, 0, 0)).2.2)); rw [e]; exact h) (fun m q F h1 h2 => Dq g0 g4 g1 P (mvX F1 (0 + (i : Int).toNat * 3)) _ _ m q F h1 h2 (by omega)) (fun v2 own2 n2 hr2 hge2 => WY ?_)
      rw [j5 (by omega) hx0 hx1 hx2 (leg_t (by first | exact .inl (by assumption) | exact .inr (by assumption)) (by assumption) (by assumption))] at hr2
      refine V7 (List.Perm.append_left _ (List.perm_append_comm (l₁ := [_, _, _, _]) (l₂ := [_]))) (Ya rfl (Yu (r := .bool _) rfl rfl (Zo rfl (Yb (ZA rfl (Yg (Ye (Zr rfl rfl (Zi rfl (Yb (⟨l.length - (i + 1), _, by omega, (List.Sublist.append (.refl _) (.refl _)), i + 1, _, _, by omega, rfl, hge2, ?_, rfl, rfl, rfl, rfl, rfl, rfl⟩)))))))))))
      exact hr2
     ·refine ZC rfl (ZB rfl (Yb (WY (ZC rfl (Zo rfl (Yb (ZA rfl (Yg (Ye (Zr rfl rfl (Zi rfl (Yb (⟨l.length - (i + 1), _, by omega, (.cons _ (.cons _ (.cons _ (List.Sublist.append (.refl _) (.refl _))))), i + 1, _, _, by omega, rfl, hgO, ?_, rfl, rfl, rfl, rfl, rfl, rfl⟩)))))))))))))
      (rw [EN (by omega) (by first | exact ya (by assumption) (by assumption) | exact zn (by assumption) | exact zJ (by assumption))]; exact hrO)
    ·refine ZD rfl (ZC rfl (Zo rfl (Zj rfl (ZC rfl (ZB rfl (Yb (WY (ZC rfl (Zo rfl (Yb (ZA rfl (Yg (Ye (Zr rfl rfl (Zi rfl (Yb (⟨l.length - (i + 1), _, by omega, (.cons _ (.cons _ (.cons _ (List.Sublist.append (.refl _) (.refl _))))), i + 1, _, _, by omega, rfl, hgO, ?_, rfl, rfl, rfl, rfl, rfl, rfl⟩)))))))))))))))))
     (rw [EN (by omega) (by first | exact ya (by assumption) (by assumption) | exact zn (by assumption) | exact zJ (by assumption))]; exact hrO)
  ·refine Z9 rfl rfl (ZE rfl (ZC rfl (ZB rfl (Zo rfl (Yb (ZA rfl (Yg (Zd (Zx rfl (Yn rfl rfl (.tail _ (List.mem_append_right _ (.tail _ ZO))) (Yn rfl rfl ZL (Ys rfl (hmove) rfl rfl rfl (Zn rfl (YC (v := .agg _ _) rfl rfl (YC (v := .s (.int _ _)) rfl rfl (Yx (Yy rfl rfl rfl rfl .here (Zi rfl (Yb (Yd (K5 (Ki (l1 := [_, _, _, _, _, _, _, _, _, _, _, _, _, _]) (l2 := [_, _, _]) (Zi rfl (Zq rfl (Zj rfl (Yr (t := 41) rfl (fun h6 => ?_) (fun h6 => ?_))))))))))))))))))))))))))) <;> simp only [NM] at h6
   ·refine Ya rfl (Yn rfl rfl ZL (Ya rfl (Zx rfl (Ya rfl (Yc (o' := 128) rfl rfl rfl (Ya rfl (Yl rfl rfl (.tail _ (.tail _ (List.mem_append_right _ (.tail _ ZO)))) rfl (Ya rfl (Ys rfl (hchk) rfl rfl rfl (Ya rfl (Yu (r := .bool _) rfl rfl (Zo rfl (Zj rfl (Yr (t := 49) rfl (fun h7 => ?_) (fun h7 => ?_))))))))))))))) <;> simp only [NM] at h7
    ·refine Ya rfl (Yp (v := .yv _) rfl (Ya rfl (Yn rfl rfl ZM (Ya rfl (Yn rfl rfl ZL (Yb (Qn (.cons _ (.cons _ (List.Sublist.append (.refl _) (.refl _)))) (Eo rfl ?_))))))))
     have hll := Dp P (l := l) i
     refine To (caps := VZ g0 g4) (xa := [.agg 3 (ia (mvX F1 (0 + (i : Int).toNat * 3))), .agg 133 (ia (ovA (fun _ => 0) 0 133 (XI P (l.getD i (0, 0, 0)).1 (l.getD i (0, 0, 0)).2.1 (l.getD i (0, 0, 0)).2.2)))]) (L0 := [_]) rfl (fun _ => rfl) rfl rfl (fun _ _ _ => rfl) (YE rfl) (YE rfl) rfl rfl hrO (List.Perm.append_left _ (List.perm_append_comm (l₁ := [_]) (l₂ := [_, _, _, _]))) (fun e => by have h := Dt g0 g4 g1 P (mvX F1 (0 + (i : Int).toNat * 3)) (ovA (fun _ => 0) 0 133 (XI P (l.getD i (0, 0, 0)).1 (l.getD i (0, 0, 0)).2.1 (l.getD i (0, 0, 0)).2.2)); rw [e]; exact h) (fun m q F h1 h2 => Dq g0 g4 g1 P (mvX F1 (0 + (i : Int).toNat * 3)) _ _ m q F h1 h2 (by omega)) (fun v3 own3 n3 hr3 hge3 => WY ?_)
     rw [j5 (by omega) hx0 hx1 hx2 (leg_t (by first | exact .inl (by assumption) | exact .inr (by assumption)) (by assumption) (by assumption))] at hr3
     refine V7 (List.Perm.append_left _ (List.perm_append_comm (l₁ := [_, _, _, _]) (l₂ := [_]))) (Ya rfl (Yu (r := .bool _) rfl rfl (Zo rfl (Yb (ZA rfl (Yg (Ye (Zr rfl rfl (Zi rfl (Yb (⟨l.length - (i + 1), _, by omega, (List.Sublist.append (.refl _) (.refl _)), i + 1, _, _, by omega, rfl, hge3, ?_, rfl, rfl, rfl, rfl, rfl, rfl⟩)))))))))))
     exact hr3
    ·refine ZC rfl (ZB rfl (Yb (WY (ZC rfl (Zo rfl (Yb (ZA rfl (Yg (Ye (Zr rfl rfl (Zi rfl (Yb (⟨l.length - (i + 1), _, by omega, (.cons _ (.cons _ (List.Sublist.append (.refl _) (.refl _)))), i + 1, _, _, by omega, rfl, hgO, ?_, rfl, rfl, rfl, rfl, rfl, rfl⟩)))))))))))))
     (rw [EN (by omega) (by first | exact ya (by assumption) (by assumption) | exact zn (by assumption) | exact zJ (by assumption))]; exact hrO)
   ·refine ZD rfl (ZC rfl (Zo rfl (Zj rfl (ZC rfl (ZB rfl (Yb (WY (ZC rfl (Zo rfl (Yb (ZA rfl (Yg (Ye (Zr rfl rfl (Zi rfl (Yb (⟨l.length - (i + 1), _, by omega, (.cons _ (.cons _ (List.Sublist.append (.refl _) (.refl _)))), i + 1, _, _, by omega, rfl, hgO, ?_, rfl, rfl, rfl, rfl, rfl, rfl⟩)))))))))))))))))
    (rw [EN (by omega) (by first | exact ya (by assumption) (by assumption) | exact zn (by assumption) | exact zJ (by assumption))]; exact hrO)
 ·refine YZ (Xc (⟨_, YS, ?_⟩))
  obtain rfl : i = l.length := by omega
  rw [List.take_length, hleq] at hrO
  exact ⟨rfl, K0 hrO ⟨(List.mem_append_right _ (List.mem_append_right _ ZL)), (List.mem_append_right _ (List.mem_append_right _ ZM)), (List.mem_append_right _ (List.mem_append_right _ ZN)), (List.mem_append_right _ (List.mem_append_right _ ZO)), trivial⟩ (fun p hp => ⟨List.mem_append_left _ hp, hgO p hp⟩)⟩
def WT (P : Nat → Int) : List Mv := if XG P = true then yj (ovA (fun _ => 0) 0 133 P) else []
def capsNo (g0 g4 : Nat → S) : List V := [.agg 133 g0, .ptr 1 0 133, .ptr 2 0 1, .undef, .agg 133 g4, .fn 51 [], .undef, .undef, .undef, .undef, .undef, .undef, .undef]
theorem pp (P : Nat → Int) : RtR AM 20 3 [.agg 133 (ia P)] [] (YV (WT P)) [] := by
 refine W7 (uh (a := a20) rfl rfl (YH _) (ZP rfl) (m := 0) (c0 := 2) rfl rfl (Yd (Ye (YB rfl (Kw (z := .one .snil) rfl (Yb (Yd (Yd (Ye (Yn rfl rfl ZM ?_))))))))))
 have fin : ∀ (f : FE) (n : Nat) (v : V) (own : HA), f 2 = .ptr 1 0 1 → Rw 3 (YV (WT P)) v own → WP AM a20.nt (.seq (.ops [ZY 12 false 1 2, Z0 1 2 12]) .ret) f n (own ++ [(1, .vs .var [v])])
   (fun _ _ _ => False) (fun _ _ _ _ => False) (fun f n L => ∃ b md v, rd a20.nt f 2 = .ptr b 0 1 ∧ (b, Blk.vs md [v]) ∈ L ∧ ∃ own, Rw 3 (YV (WT P)) v own ∧ ∀ p ∈ own, p ∈ L) (fun _ _ _ _ => False) := fun f n v own h2 hr => by
  refine pH 2 h2 (Yd (Ye (UX (v := v) rfl rfl (List.mem_append_right _ ZL) rfl (Ru (b := 1) (u := v) (v := v) rfl rfl hr.isrow (.appR _ .here) ?_))))
  exact Yb (Yh ⟨1, .var, v, rfl, List.mem_append_right _ ZL, own, hr, fun p hp => List.mem_append_left _ hp⟩)
 cases h : XG P with
 | false =>
  have hl : YV (WT P) = [] := by unfold WT; rw [h]; rfl
  refine Ys rfl (of_none P h) rfl rfl rfl (Yb (Yj (yI (Lr := [(0, _), (1, _)]) (L0 := []) (vs := [.yv 0]) (Bs := [.lp 607 Q8 (capsNo (ia P) (ia P)) 0, .sc .var 133 (ia P), .vs .var [.snil]]) (List.reverse_perm [_, _]) rfl rfl rfl rfl rfl (YI (a := a51) rfl rfl (YH _) (ZP rfl) (m := 3) rfl (Yg ⟨_, YS, ?_⟩)))))
  refine .inl ⟨[_, _, _], .tup [], _, ⟨.head _, .tail _ ZL, .tail _ ZM, trivial⟩, rfl, rfl, rfl, rfl, 607, Q8, _, 0, _, .refl _, ?_⟩
  refine Xe (.cons _ (.refl _)) ?_
  exact fin _ _ .snil [] rfl (.nil hl)
 | true =>
  have hl : YV (WT P) = YV (yj (ovA (fun _ => 0) 0 133 P)) := by unfold WT; rw [h]; rfl
  refine TI (rs := []) (Bs := []) (caps := []) (av := [.agg 133 (ia P)]) tH rfl (of_rn P h) rfl rfl (YE rfl) (fun _ h => h) rfl trivial rfl rfl .nil (Yb (Yj (yI (Lr := [(0, _), (1, _), (2, _)]) (L0 := []) (vs := [.yv 0, .ptr 3 0 133]) (Bs := [Tm (ia P) (ia P) 3 0, .sc .var 133 (ia P), .vs .var [.snil], .sc .var 133 (ia (ovA (fun _ => 0) 0 133 P))]) (List.reverse_perm [_, _, _]) rfl rfl rfl rfl rfl (U0 (iter_mv (ia P) (ia P) (ia P) (ovA (fun _ => 0) 0 133 P)) ?_))))
  rintro r n1 L1 ⟨rfl, ho⟩
  rw [← hl] at ho
  rcases ho with ⟨e1, e2⟩ | ⟨b, m, q, F, e1, e2, e3, e4, e5⟩
  ·refine .inl ⟨_, .tup [], _, e2, rfl, rfl, rfl, rfl, 607, Q8, _, 0, _, .refl _, ?_⟩
   refine Xe (.cons _ (.cons_cons _ (.cons _ .slnil))) ?_
   exact fin _ _ .snil [] rfl (.nil e1)
  ·refine .inr ⟨[Tm (ia P) (ia P) 3 0, .sc .var 133 (ia P)], [.sc .var 133 (ia (ovA (fun _ => 0) 0 133 P))], b, m, 3, q, .var, .grow, ia F, .tup [], _, _, e3, rfl, e1, e2, rfl, rfl, rfl, rfl, rfl, (YE rfl), 607, Q8, _, 0, _, .swap _ _ _, ?_⟩
   refine Xe (.cons_cons _ (.cons _ (.cons_cons _ (.cons _ .slnil)))) ?_
   exact fin _ _ _ [(_, _)] rfl (.row e4 e5)
theorem ut {P : Nat → Int} {s : Int} {m : Mv} (h : m ∈ VN P s 64) : (0 ≤ m.2.1 ∧ m.2.1 < 64) ∧ WN P s m.2.1 = true ∧ m ∈ toM s (P (sqI s)) (P (sqI s + 1)) m.2.1 := by
 unfold VN at h
 rw [List.mem_flatMap] at h
 obtain ⟨t, ht, h⟩ := h
 split at h
 ·rename_i hg
  have e := (K3 h).2
  rw [e]
  exact ⟨mem64.1 ht, hg, h⟩
 ·cases h
theorem D9 {P : Nat → Int} {m : Mv} (h : m ∈ UB P 64) : (0 ≤ m.1 ∧ m.1 < 64) ∧ (0 ≤ m.2.1 ∧ m.2.1 < 64) ∧ WN P m.1 m.2.1 = true ∧ m ∈ toM m.1 (P (sqI m.1)) (P (sqI m.1 + 1)) m.2.1 := by
 unfold UB at h
 rw [List.mem_flatMap] at h
 obtain ⟨s, hs, h⟩ := h
 have e := KD h
 rw [e]
 exact ⟨mem64.1 hs, ut h⟩
def cntR (P : Nat → Int) (s : Nat) : Nat := (UB P s).length
theorem RZ {P : Nat → Int} {s t : Int} (h : WN P s t = true) : (1 ≤ P (sqI s) ∧ P (sqI s) ≤ 6) ∧ (P (sqI s + 1) = 0 ∨ P (sqI s + 1) = 1) ∧ P (sqI s + 1) = P 128 ∧ s ≠ t := by
 unfold WN We YU at h
 simp only [Bool.and_eq_true, decide_eq_true_eq] at h
 omega
theorem toM_can {P : Nat → Int} {m : Mv} (h : m ∈ toM m.1 (P (sqI m.1)) (P (sqI m.1 + 1)) m.2.1) : if P (sqI m.1) = 1 ∧ m.2.1 / 8 = 7 * (1 - P (sqI m.1 + 1)) then 2 ≤ m.2.2 ∧ m.2.2 ≤ 5 else m.2.2 = 0 := by
 unfold toM xd at h
 split at h
 ·rename_i e
  rw [decide_eq_true_eq] at e
  rw [if_pos e]
  simp only [List.mem_cons, List.not_mem_nil, or_false] at h
  rcases h with h | h | h | h <;> (have := congrArg (fun m : Mv => m.2.2) h; simp only at this; omega)
 ·rename_i e
  rw [decide_eq_true_eq] at e
  rw [if_neg e]
  have := congrArg (fun m : Mv => m.2.2) (List.mem_singleton.1 h)
  simpa using this
theorem mv_can {P : Nat → Int} {m : Mv} (h : m ∈ UB P 64) : Wk P m.1 m.2.1 m.2.2 = 0 := by
 obtain ⟨ha, ht, hg, hm⟩ := D9 h
 obtain ⟨h1, h2, h3, h4⟩ := RZ hg
 refine W8 ⟨ha, ht, h4⟩ ?_
 unfold Xv
 exact decide_eq_true ⟨h1.1, h1.2, h3, h2, toM_can hm⟩
def fnzM : List Int → Int
 | [] => 0
 | x :: l => if x = 0 then fnzM l else x
def cmpM (x y : Int) : Int := if x < y then -1 else if y < x then 1 else 0
theorem kq {a b : Int} (h : a ≠ b) : WX .eql (.int .i64 a) (.int .i64 b) = some (.bool false) := by
 show (if IntKind.i64 = IntKind.i64 then some (S.bool (a == b)) else none) = _
 simp [h]
theorem Ui {a b : Int} (h : a = b) : WX .eql (.int .i64 a) (.int .i64 b) = some (.bool true) := by
 subst h
 show (if IntKind.i64 = IntKind.i64 then some (S.bool (a == a)) else none) = _
 simp
theorem pR {a b : Int} (h : a = b) : WX .neq (.int .i64 a) (.int .i64 b) = some (.bool false) := by
 subst h
 show (if IntKind.i64 = IntKind.i64 then some (S.bool (a != a)) else none) = _
 simp
theorem pO {a b : Int} (h : a ≠ b) : WX .neq (.int .i64 a) (.int .i64 b) = some (.bool true) := by
 show (if IntKind.i64 = IntKind.i64 then some (S.bool (a != b)) else none) = _
 simp [h]
def pathOK (a b : Int) : Bool := decide (a = b) || (!(Wt a b || Wq a b) || (decide (1 ≤ UC a b ∧ b = a + V9 a b * UC a b) && (List.range (UC a b - 1)).all fun (j : Nat) => decide ((0 ≤ a + V9 a b * ((j : Int) + 1) ∧ a + V9 a b * ((j : Int) + 1) < 64) ∧ a + V9 a b * ((j : Int) + 1) ≠ b)))
section
variable {P : Nat → Int} {a b : Int}
end
def hitA (P : Nat → Int) (c s a : Int) : Bool := decide (P (sqI a + 1) = c) && Xb P a s
def toL (P : Nat → Int) (s c : Int) (n : Nat) : List Int := if 0 ≤ s ∧ s < 64 then (X4 n).filter (hitA P c s) else []
def isR (P : Nat → Int) (c : Int) (s : Int) : Bool := decide (0 < (toL P s c 64).length)
def checkR (P : Nat → Int) (c : Int) : Bool := if c = 0 ∨ c = 1 then (R8 P (RV c)).any (isR P (Y0 c)) else false
section
variable {P : Nat → Int} {s t c : Int}
end
def fromD (P : Nat → Int) (s : Int) (n : Nat) : List Mv := if 0 ≤ s ∧ s < 64 then VN P s n else []
def fineM (P : Nat → Int) (m : Mv) : Bool := decide (Wk P m.1 m.2.1 m.2.2 = 0) && (!Xu (XI P m.1 m.2.1 m.2.2) (P 128) && (!X8 P m.1 m.2.1 || (!Xu P (P 128) && !([(m.1 + m.2.1) / 2].any (isR P (Y0 (P 128)))))))
section
variable {P : Nat → Int} {m : Mv}
end
def movesD (P : Nat → Int) : List Mv := if XG P = true then (UB P 64).filter (fineM P) else []
def wE (s : Int) : Int := if s = 1 then 2 else 1
def ofN (P : Nat → Int) (n : Nat) : Int × Int := if XG P = false ∨ 0 < n then (0, 0) else if Xu P (P 128) = true then (wE (Y0 (P 128)), 1) else (3, 2)
section
variable {P : Nat → Int} {n : Nat}
theorem yB (h : XG P = false ∨ 0 < n) : ofN P n = (0, 0) := if_pos h
theorem of_go (h1 : XG P = true) (h2 : ¬ 0 < n) : ¬ (XG P = false ∨ 0 < n) := fun h => h.elim (fun h => by rw [h1] at h; cases h) h2
theorem kI (h1 : XG P = true) (h2 : ¬ 0 < n) (h3 : Xu P (P 128) = true) : ofN P n = (wE (Y0 (P 128)), 1) := by
 unfold ofN; rw [if_neg (of_go h1 h2), if_pos h3]
theorem w6 (h1 : XG P = true) (h2 : ¬ 0 < n) (h3 : Xu P (P 128) = false) : ofN P n = (3, 2) := by
 unfold ofN; rw [if_neg (of_go h1 h2), if_neg (by rw [h3]; decide)]
end
theorem wa (s : Int) : WR AM 13 [.s (.int .i64 s)] [] (fun v _ _ => v = .s (.int .i64 (wE s))) := by
 refine YI (a := a13) rfl rfl (YH _) (ZP rfl) (m := 0) rfl (Zd (Yp rfl (Yb (Yd (Zd (Zi rfl (Zq rfl (Yb (Yi rfl (fun h1 => ?_) (fun h1 => ?_)))))))))) <;> simp only [NM] at h1
 ·refine Zd (Yp rfl (Yb (Yh (⟨_, ZK rfl, ?_⟩))))
  refine ZI ?_
  exact (if_pos (by omega)).symm
 ·refine Yg (Zd (Yp rfl (Yb (Yh (⟨_, ZK rfl, ?_⟩)))))
  refine ZI ?_
  exact (if_neg (by omega)).symm
def Je (P : Nat → Int) : Bool := XG P && decide ((WT P).length = 0)
theorem stuck_f {P : Nat → Int} (h : Je P = false) : XG P = false ∨ 0 < (WT P).length := by
 unfold Je at h
 cases hp : XG P with
 | false => exact .inl rfl
 | true =>
  rw [hp, Bool.true_and] at h
  have := of_decide_eq_false h
  exact .inr (by omega)
theorem E0 {P : Nat → Int} (h : Je P = true) : XG P = true ∧ ¬ 0 < (WT P).length := by
 unfold Je at h
 rw [Bool.and_eq_true, decide_eq_true_eq] at h
 exact ⟨h.1, by omega⟩
theorem vC (P : Nat → Int) (hz : ∀ i, 133 ≤ i → P i = 0) : WR AM 26 [.agg 133 (ia P)] [] (fun v _ _ => v = .s (.bool (Je P))) := by
 refine YI (a := a26) rfl rfl (YH _) (ZP rfl) (m := 0) rfl (Zd (YB rfl (Yp rfl (Ze (Zx rfl (Yn rfl rfl ZL (Ys rfl (YF (Qg P)) rfl rfl rfl (Zj rfl (Yr (t := 6) rfl (fun h2 => ?_) (fun h2 => ?_))))))))))
 ·refine Ya rfl (Zx rfl (Ya rfl (Yn rfl rfl ZL (Ya rfl (YD rfl (pp P) rfl rfl (fun v1 own1 n1 hr1 => Ya rfl (Vn rfl hr1.rx (by decide) (Xm _) (Ya rfl (Zq rfl (Zo rfl (Zj rfl (Zf rfl (ZH ?_)))))))))))))
  unfold Je
  (rw [show XG P = true by assumption, Bool.true_and, Bool.eq_iff_iff, beq_iff_eq, decide_eq_true_eq]; omega)
 ·refine Z9 rfl rfl (ZD rfl (Zo rfl (Zj rfl (Zf rfl (ZH ?_)))))
  unfold Je
  (rw [show XG P = false by assumption]; rfl)
theorem yO (P : Nat → Int) (hz : ∀ i, 133 ≤ i → P i = 0) : WR AM 7 [.agg 133 (ia P)] [] (fun v _ _ => v = .tup [.s (.int .i64 (ofN P (WT P).length).1), .s (.int .i64 (ofN P (WT P).length).2)]) := by
 have hid : ovA (fun _ => 0) 0 133 P = P := JA hz
 refine YI (a := a7) rfl rfl (YH _) (ZP rfl) (m := 0) rfl (Zd (YB rfl (Yp rfl (Yp rfl (Yb (Yd (Zd (Yn rfl rfl ZL (YA rfl (.agg rfl .nil) ?_)))))))))
 rw [hid]
 refine Yx (Yy rfl rfl rfl rfl .here ?_)
 rw [hid]
 refine Yb (Yj (Zd (Yn rfl rfl ZL (Ys rfl (YF (vC P hz)) rfl rfl rfl (Yu (r := .bool _) rfl rfl (Zj rfl (Yb (Yi rfl (fun h3 => ?_) (fun h3 => ?_))))))))) <;> simp only [NM] at h3
 ·refine Zd (Yp rfl (Yp rfl (Yb (Yh (⟨_, YK (v := .s (.int _ _)) rfl (ZK rfl), ?_⟩)))))
  (rw [yB (stuck_f (by assumption))]; rfl)
 ·refine Zd (Yn rfl rfl ZM (Zx rfl (Yc (o' := 128) rfl rfl rfl (Yl (x := P 128) rfl rfl ZL (rfl) (Ys rfl (EM P (P 128)) rfl rfl rfl (Zj rfl (Yb (Yi rfl (fun h4 => ?_) (fun h4 => ?_)))))))))
  ·refine Zd (Zx rfl (Yc (o' := 128) rfl rfl rfl (Yl (x := P 128) rfl rfl ZL (rfl) (Ys rfl (YF (VH _)) rfl rfl rfl (Ys rfl (YF (wa _)) rfl rfl rfl (Zi rfl (Yp rfl (Yb (Yh (⟨_, YK (v := .s (.int _ _)) rfl (ZK rfl), ?_⟩))))))))))
   (rw [kI (E0 (by assumption)).1 (E0 (by assumption)).2 (by assumption)]; rfl)
  ·refine Yg (Zd (Yp rfl (Yp rfl (Yb (Yh (⟨_, YK (v := .s (.int _ _)) rfl (ZK rfl), ?_⟩))))))
   (rw [w6 (E0 (by assumption)).1 (E0 (by assumption)).2 (by assumption)]; rfl)
theorem oC {P Q : Nat → Int} (h : pN P Q 64) {x : Int} (hx : 0 ≤ x ∧ x < 64) : Q (sqI (K4 x)) = P (sqI x) ∧ Q (sqI (K4 x) + 1) = pW (P (sqI x)) (P (sqI x + 1)) := by
 obtain ⟨s, rfl⟩ : ∃ s : Nat, x = s := ⟨x.toNat, by omega⟩
 have h1 := h s (by omega)
 have e1 : sqI (s : Int) = s * 2 := by show 0 + (s : Int).toNat * 2 = s * 2; omega
 have e2 : sqI (K4 (s : Int)) = acr s * 2 := by show 0 + (K4 (s : Int)).toNat * 2 = acr s * 2; rw [oi (by omega)]; omega
 rw [e1, e2]
 exact h1
theorem acr_acr {s : Nat} (h : s < 64) : acr (acr s) = s := by unfold acr; omega
theorem o8 {P Q R : Nat → Int} (h : pN P Q 64) (k : pN P R 64) : ∀ i, i < 128 → Q i = R i := by
 intro i hi
 have hl := p5 (s := i / 2) (by omega)
 have h1 := h (acr (i / 2)) hl
 have k1 := k (acr (i / 2)) hl
 rw [acr_acr (by omega)] at h1 k1
 by_cases e : i % 2 = 0
 ·rw [show i = i / 2 * 2 by omega, h1.1, k1.1]
 ·rw [show i = i / 2 * 2 + 1 by omega, h1.2, k1.2]
theorem pL {x : Int} (h : 0 ≤ x ∧ x < 64) : 0 ≤ K4 x ∧ K4 x < 64 := by unfold K4; omega
theorem sqI_acr {x : Int} (h : 0 ≤ x ∧ x < 64) : sqI (K4 x) = acr x.toNat * 2 := by
 show 0 + (K4 x).toNat * 2 = acr x.toNat * 2
 unfold K4 acr; omega
theorem pS {B C X Y : Nat → Int} {x : Int} (h : pN B C 64) (hx : 0 ≤ x ∧ x < 64) (h0 : Y 0 = X 0) (h1 : Y 1 = pW (X 0) (X 1)) : pN (ovA B (sqI x) 2 X) (ovA C (sqI (K4 x)) 2 Y) 64 := by
 intro s hs
 have e1 : sqI x = x.toNat * 2 := by show 0 + x.toNat * 2 = x.toNat * 2; omega
 rw [sqI_acr hx, e1]
 by_cases q : s = x.toNat
 ·subst q
  rw [XR (by omega), XR (by omega), XR (by omega), XR (by omega)]
  rw [show acr x.toNat * 2 - acr x.toNat * 2 = 0 by omega, show acr x.toNat * 2 + 1 - acr x.toNat * 2 = 1 by omega, show x.toNat * 2 - x.toNat * 2 = 0 by omega, show x.toNat * 2 + 1 - x.toNat * 2 = 1 by omega]
  exact ⟨h0, h1⟩
 ·have hne : acr s ≠ acr x.toNat := fun e => q (gk hs (by omega) e)
  rw [WA (by omega), WA (by omega), WA (by omega), WA (by omega)]
  exact h s hs
theorem pZ {k c : Int} (hk : 1 ≤ k ∧ k ≤ 6) (hc : c = 0 ∨ c = 1) : pW k c = 1 - c := by
 unfold pW
 rw [if_pos (show YU k c = true from decide_eq_true ⟨hk.1, hk.2, hc⟩), V5 hc]
theorem oa {k c : Int} (h : ¬ (1 ≤ k ∧ k ≤ 6 ∧ (c = 0 ∨ c = 1))) : pW k c = c := by
 unfold pW
 rw [if_neg (by rw [YU, decide_eq_false h]; decide)]
theorem gL {P Q : Nat → Int} (T : TurnOf P Q) (hs : P 128 = 0 ∨ P 128 = 1) {a t b : Int} (ha : 0 ≤ a ∧ a < 64) (ht : 0 ≤ t ∧ t < 64) : Xv Q (K4 a) (K4 t) b = Xv P a t b := by
 have ⟨hk, hc⟩ := oC T.sq ha
 have h8 : K4 t / 8 = 7 - t / 8 := by unfold K4; omega
 have hd := T.side
 rw [V5 hs] at hd
 unfold Xv
 rw [hk, hc, hd, h8]
 by_cases m : 1 ≤ P (sqI a) ∧ P (sqI a) ≤ 6 ∧ (P (sqI a + 1) = 0 ∨ P (sqI a + 1) = 1)
 ·rw [pZ ⟨m.1, m.2.1⟩ m.2.2, Bool.eq_iff_iff, decide_eq_true_eq, decide_eq_true_eq]
  by_cases e : P (sqI a) = 1 ∧ t / 8 = 7 * (1 - P (sqI a + 1))
  ·rw [if_pos e, if_pos (by omega)]; omega
  ·rw [if_neg e, if_neg (by omega)]; omega
 ·rw [oa m, Bool.eq_iff_iff, decide_eq_true_eq, decide_eq_true_eq]
  constructor
  ·intro q; exact absurd ⟨q.1, q.2.1, q.2.2.2.1⟩ m
  ·intro q; exact absurd ⟨q.1, q.2.1, q.2.2.2.1⟩ m
theorem oW {P Q : Nat → Int} (T : TurnOf P Q) (hs : P 128 = 0 ∨ P 128 = 1) {a t b : Int} (ha : 0 ≤ a ∧ a < 64) (ht : 0 ≤ t ∧ t < 64) : Wk Q (K4 a) (K4 t) b = Wk P a t b := by
 have h1 := pL ha
 have h2 := pL ht
 unfold Wk
 rw [gL T hs ha ht]
 by_cases e : a = t
 ·rw [if_neg (fun q => q.2.2 (by rw [e])), if_neg (fun q => q.2.2 e)]
 ·have c1 : (0 ≤ K4 a ∧ K4 a < 64) ∧ (0 ≤ K4 t ∧ K4 t < 64) ∧ K4 a ≠ K4 t := ⟨h1, h2, fun q => e (by unfold K4 at q; omega)⟩
  have c2 : (0 ≤ a ∧ a < 64) ∧ (0 ≤ t ∧ t < 64) ∧ a ≠ t := ⟨ha, ht, e⟩
  rw [if_pos c1, if_pos c2]
theorem pT {P Q : Nat → Int} (T : TurnOf P Q) {x : Int} (hx : 0 ≤ x ∧ x < 64) : YP Q (K4 x) = YP P x := by
 have ⟨hk, hc⟩ := oC T.sq hx
 rw [Bool.eq_iff_iff, yu, yu, hk, hc]
 constructor
 ·rintro ⟨e0, e1⟩
  rw [oa (by omega)] at e1
  exact ⟨e0, e1⟩
 ·rintro ⟨e0, e1⟩
  rw [oa (by omega)]
  exact ⟨e0, e1⟩
theorem at_turn {P Q : Nat → Int} (T : TurnOf P Q) {k a t : Int} (ha : 0 ≤ a ∧ a < 64) (ht : 0 ≤ t ∧ t < 64) : atT Q k (K4 a) (K4 t) = K4 (atT P k a t) := by
 unfold atT
 rw [pT T ht, T.over]
 have ho : K4 t = oe (P 130) ↔ t = P 130 := by
  unfold oe isM
  by_cases q : 0 ≤ P 130 ∧ P 130 < 64
  ·rw [if_pos (decide_eq_true q)]; unfold K4; omega
  ·rw [if_neg (by rw [decide_eq_false q]; decide)]; unfold K4; omega
 have hf : K4 t % 8 ≠ K4 a % 8 ↔ t % 8 ≠ a % 8 := by unfold K4; omega
 by_cases c : k = 1 ∧ t % 8 ≠ a % 8 ∧ t = P 130 ∧ YP P t = true
 ·rw [if_pos c, if_pos ⟨c.1, hf.2 c.2.1, ho.2 c.2.2.1, c.2.2.2⟩]; unfold K4; omega
 ·rw [if_neg c, if_neg (fun q => c ⟨q.1, hf.1 q.2.1, ho.1 q.2.2.1, q.2.2.2⟩)]
theorem go {P Q : Nat → Int} (T : TurnOf P Q) {k a t : Int} (ha : 0 ≤ a ∧ a < 64) (ht : 0 ≤ t ∧ t < 64) : (Y5 P k a t = -1 ∧ Y5 Q k (K4 a) (K4 t) = -1) ∨ ((0 ≤ Y5 P k a t ∧ Y5 P k a t < 64) ∧ Y5 Q k (K4 a) (K4 t) = K4 (Y5 P k a t)) := by
 have hb := yl (P := P) (k := k) ha ht
 unfold Y5
 rw [at_turn T ha ht, pT T hb]
 by_cases e : YP P (atT P k a t) = true
 ·rw [if_pos e, if_pos e]; exact .inl ⟨rfl, rfl⟩
 ·rw [if_neg e, if_neg e]; exact .inr ⟨hb, rfl⟩
theorem oG : ∀ C : Fin 16, pJ (C.val : Int) / 4 % 2 = (C.val : Int) / 1 % 2 ∧ pJ (C.val : Int) / (2 * 4) % 2 = (C.val : Int) / (2 * 1) % 2 ∧ pJ (C.val : Int) / 1 % 2 = (C.val : Int) / 4 % 2 ∧ pJ (C.val : Int) / (2 * 1) % 2 = (C.val : Int) / (2 * 4) % 2 := by decide +kernel
theorem oM {k a t c C : Int} (hc : c = 0 ∨ c = 1) (hC : 0 ≤ C ∧ C ≤ 15) (ha : 0 ≤ a ∧ a < 64) (ht : 0 ≤ t ∧ t < 64) : YW k (K4 a) (K4 t) (1 - c) (pJ C) = YW k a t c C := by
 obtain ⟨n, rfl⟩ : ∃ n : Nat, C = n := ⟨C.toNat, by omega⟩
 have ⟨b1, b2, b3, b4⟩ := oG ⟨n, by omega⟩
 simp only at b1 b2 b3 b4
 rcases hc with rfl | rfl
 ·have e1 : YO (1 - 0) = 4 := rfl
  have e2 : YO 0 = 1 := rfl
  unfold YW K4
  rw [e1, e2]
  have q1 : (k = 6 ∧ (7 - a / 8) * 8 + a % 8 = 56 * (1 - 0) + 4 ∧ (7 - t / 8) * 8 + t % 8 = (7 - a / 8) * 8 + a % 8 + 2 ∧ pJ (n : Int) / 4 % 2 = 1) ↔ (k = 6 ∧ a = 56 * 0 + 4 ∧ t = a + 2 ∧ (n : Int) / 1 % 2 = 1) := by rw [b1]; omega
  have q2 : (k = 6 ∧ (7 - a / 8) * 8 + a % 8 = 56 * (1 - 0) + 4 ∧ (7 - t / 8) * 8 + t % 8 = (7 - a / 8) * 8 + a % 8 - 2 ∧ pJ (n : Int) / (2 * 4) % 2 = 1) ↔ (k = 6 ∧ a = 56 * 0 + 4 ∧ t = a - 2 ∧ (n : Int) / (2 * 1) % 2 = 1) := by rw [b2]; omega
  simp only [q1, q2]
 ·have e1 : YO (1 - 1) = 1 := rfl
  have e2 : YO 1 = 4 := rfl
  unfold YW K4
  rw [e1, e2]
  have q1 : (k = 6 ∧ (7 - a / 8) * 8 + a % 8 = 56 * (1 - 1) + 4 ∧ (7 - t / 8) * 8 + t % 8 = (7 - a / 8) * 8 + a % 8 + 2 ∧ pJ (n : Int) / 1 % 2 = 1) ↔ (k = 6 ∧ a = 56 * 1 + 4 ∧ t = a + 2 ∧ (n : Int) / 4 % 2 = 1) := by rw [b3]; omega
  have q2 : (k = 6 ∧ (7 - a / 8) * 8 + a % 8 = 56 * (1 - 1) + 4 ∧ (7 - t / 8) * 8 + t % 8 = (7 - a / 8) * 8 + a % 8 - 2 ∧ pJ (n : Int) / (2 * 1) % 2 = 1) ↔ (k = 6 ∧ a = 56 * 1 + 4 ∧ t = a - 2 ∧ (n : Int) / (2 * 4) % 2 = 1) := by rw [b4]; omega
  simp only [q1, q2]
theorem gE {B C X Y : Nat → Int} {w w' : Int} (h : pN B C 64) (hw : (w = -1 ∧ w' = -1) ∨ ((0 ≤ w ∧ w < 64) ∧ w' = K4 w)) : pN (T1 B w) (T1 C w') 64 := by
 unfold T1
 rcases hw with ⟨rfl, rfl⟩ | ⟨hw, rfl⟩
 ·rw [if_neg (by decide), if_neg (by decide)]; exact h
 ·have := pL hw
  rw [if_pos hw.1, if_pos this.1]
  exact pS h hw rfl rfl
theorem gT {P Q : Nat → Int} {w w' a t k c b g : Int} (h : pN P Q 64) (hw : (w = -1 ∧ w' = -1) ∨ ((0 ≤ w ∧ w < 64) ∧ w' = K4 w)) (ha : 0 ≤ a ∧ a < 64) (ht : 0 ≤ t ∧ t < 64) (hk : 1 ≤ k ∧ k ≤ 6) (hc : c = 0 ∨ c = 1) (hb : b = 0 ∨ (2 ≤ b ∧ b ≤ 5)) (hg : g ≠ 0 → a = 56 * c + 4) :
  pN (VA P w a t k c b g) (VA Q w' (K4 a) (K4 t) k (1 - c) b g) 64 := by
 have h3 : pN (Tt P w a t k c b) (Tt Q w' (K4 a) (K4 t) k (1 - c) b) 64 := by
  unfold Tt oV
  refine pS (pS (gE (X := DN) (Y := DN) h hw) ha rfl rfl) ht rfl ?_
  show 1 - c = pW (if b = 0 then k else b) c
  rw [pZ (by split <;> omega) hc]
 unfold VA
 by_cases g1 : g = 1
 ·have hh := hg (by omega)
  rw [if_pos g1, if_pos g1, show K4 a + 3 = K4 (a + 3) by unfold K4; omega, show K4 a + 1 = K4 (a + 1) by unfold K4; omega]
  exact pS (pS h3 (by omega) rfl rfl) (by omega) rfl (pZ (k := 4) (by omega) hc).symm
 ·rw [if_neg g1, if_neg g1]
  by_cases g2 : g = -1
  ·have hh := hg (by omega)
   rw [if_pos g2, if_pos g2, show K4 a - 4 = K4 (a - 4) by unfold K4; omega, show K4 a - 1 = K4 (a - 1) by unfold K4; omega]
   exact pS (pS h3 (by omega) rfl rfl) (by omega) rfl (pZ (k := 4) (by omega) hc).symm
  ·rw [if_neg g2, if_neg g2]; exact h3
theorem gM : ∀ s : Fin 64, Xp (K4 (s.val : Int)) = pJ (Xp (s.val : Int)) := by decide +kernel
theorem oD {s : Int} (h : 0 ≤ s ∧ s < 64) : Xp (K4 s) = pJ (Xp s) := by
 obtain ⟨n, rfl⟩ : ∃ n : Nat, s = n := ⟨s.toNat, by omega⟩
 exact gM ⟨n, by omega⟩
theorem oZ : ∀ C : Fin 16, ∀ x ∈ [0, 1, 2, 3, 4, 8, 12], ∀ y ∈ [0, 1, 2, 3, 4, 8, 12], VD (pJ (C.val : Int)) (orM (orM 0 (pJ x)) (pJ y)) = pJ (VD (C.val : Int) (orM (orM 0 x) y)) := by decide +kernel
theorem o6 {C a t : Int} (hC : 0 ≤ C ∧ C ≤ 15) (ha : 0 ≤ a ∧ a < 64) (ht : 0 ≤ t ∧ t < 64) : VD (pJ C) (orM (orM 0 (Xp (K4 a))) (Xp (K4 t))) = pJ (VD C (orM (orM 0 (Xp a)) (Xp t))) := by
 rw [oD ha, oD ht]
 obtain ⟨n, rfl⟩ : ∃ n : Nat, C = n := ⟨C.toNat, by omega⟩
 exact oZ ⟨n, by omega⟩ _ (kp a) _ (kp t)
theorem gt {P Q : Nat → Int} (T : TurnOf P Q) : WK Q = pJ (WK P) := by
 by_cases h : 0 ≤ P 129 ∧ P 129 ≤ 15
 ·have e : pJ (P 129) = P 129 / 4 + P 129 % 4 * 4 := if_pos h
  have f : WK P = P 129 := if_neg (by omega)
  rw [f]
  show (if Q 129 < 0 ∨ 15 < Q 129 then 0 else Q 129) = _
  rw [T.castle, if_neg (by rw [e]; omega)]
 ·have e : pJ (P 129) = P 129 := if_neg h
  have f : WK P = 0 := if_pos (by omega)
  rw [f]
  show (if Q 129 < 0 ∨ 15 < Q 129 then 0 else Q 129) = _
  rw [T.castle, e, if_pos (by omega)]; rfl
theorem gy {k a t c : Int} (hc : c = 0 ∨ c = 1) (ha : 0 ≤ a ∧ a < 64) (ht : 0 ≤ t ∧ t < 64) : Un k (K4 a) (K4 t) (1 - c) = oe (Un k a t c) := by
 have hl : WJ k (K4 a) (K4 t) (1 - c) = WJ k a t c := by
  unfold WJ K4
  rw [Bool.eq_iff_iff, decide_eq_true_eq, decide_eq_true_eq]
  omega
 unfold Un
 rw [hl]
 by_cases h : WJ k a t c = true
 ·have h2 := of_decide_eq_true h
  rw [if_pos h, if_pos h, oe, if_pos (show isM ((a + t) / 2) = true from decide_eq_true (by omega))]
  unfold K4
  omega
 ·rw [if_neg h, if_neg h]; rfl
theorem gB {P Q S : Nat → Int} (T : TurnOf P Q) (hs : P 128 = 0 ∨ P 128 = 1) {a t b : Int} (he : Wk P a t b = 0) (ha : 0 ≤ a ∧ a < 64) (ht : 0 ≤ t ∧ t < 64) (U : TurnOf (ovA (fun _ => 0) 0 133 (XI P a t b)) S) :
  ∀ i, i < 133 → i ≠ 132 → S i = XI Q (K4 a) (K4 t) b i := by
 have hcan := (xT he).2
 have hk := gw hcan
 have hc := Ef hcan
 have hb : b = 0 ∨ (2 ≤ b ∧ b ≤ 5) := by
  have := (of_decide_eq_true hcan).2.2.2.2
  split at this
  ·exact .inr this
  ·exact .inl this
 have ⟨tk, tc⟩ := oC T.sq ha
 rw [pZ hk hc] at tc
 have e0 : ovA (fun _ => 0) 0 133 (XI P a t b) = XI P a t b := JA fun i hi => x6 hi
 rw [e0] at U
 have hP : XI P a t b = V6 P (P (sqI a)) (P (sqI a + 1)) a t b (WK P) := by unfold XI; rw [if_pos he]
 have hQ : XI Q (K4 a) (K4 t) b = V6 Q (P (sqI a)) (1 - P (sqI a + 1)) (K4 a) (K4 t) b (pJ (WK P)) := by
  unfold XI; rw [if_pos (by rw [oW T hs ha ht]; exact he), tk, tc, gt T]
 have hw := go T (k := P (sqI a)) ha ht
 rw [hP] at U
 rw [hQ]
 have hbr := gT (b := b) T.sq hw ha ht hk hc hb (Tw (k := P (sqI a)) (a := a) (t := t) (c := P (sqI a + 1)) (C := WK P))
 have hcg := oM (k := P (sqI a)) (t := t) hc (Tp P) ha ht
 intro i hi hn
 have lo : ∀ i, i < 128 → S i = VA Q (Y5 Q (P (sqI a)) (K4 a) (K4 t)) (K4 a) (K4 t) (P (sqI a)) (1 - P (sqI a + 1)) b (YW (P (sqI a)) a t (P (sqI a + 1)) (WK P)) i := by
  refine o8 (P := VA P (Y5 P (P (sqI a)) a t) a t (P (sqI a)) (P (sqI a + 1)) b (YW (P (sqI a)) a t (P (sqI a + 1)) (WK P))) ?_ hbr
  intro s hs2
  have := U.sq s hs2
  unfold V6 at this
  rw [if_pos (by omega), if_pos (by omega)] at this
  exact this
 unfold V6
 by_cases h1 : i < 128
 ·rw [if_pos h1, hcg]; exact lo i h1
 ·rw [if_neg h1]
  have hcs : i = 128 ∨ i = 129 ∨ i = 130 ∨ i = 131 := by omega
  rcases hcs with rfl | rfl | rfl | rfl
  ·rw [if_pos rfl, U.side, T.side]; rfl
  ·rw [if_neg (by decide), if_pos rfl, U.castle, o6 (Tp P) ha ht]; rfl
  ·rw [if_neg (by decide), if_neg (by decide), if_pos rfl, U.over, gy hc ha ht]; rfl
  ·rw [if_neg (by decide), if_neg (by decide), if_neg (by decide), if_pos rfl, U.half]
   show VU P (P (sqI a)) (Y5 P (P (sqI a)) a t) = _
   unfold VU
   rw [T.half]
   rcases hw with ⟨x, y⟩ | ⟨x, y⟩
   ·rw [x, y]
   ·have := pL x
    by_cases q : P (sqI a) = 1
    ·rw [if_pos (.inl q), if_pos (.inl q)]
    ·rw [if_pos (.inr x.1), if_pos (.inr (by rw [y]; exact this.1))]
theorem pY (P : Nat → Int) : ∃ Q, TurnOf P Q ∧ RF AM 24 [.agg 133 (ia P)] (.agg 133 (ia Q)) := by
 obtain ⟨v, σ, _, _, h, _, Q, hQ, rfl⟩ := gS P
 exact ⟨Q, hQ, σ, h⟩
def om (g : Nat → Int) : Nat → Int
 | 0 => 0
 | n + 1 => om g n + g n
theorem oE {g h : Nat → Int} : ∀ (n : Nat), (∀ s, s < n → g s = h s) → om g n = om h n
 | 0, _ => rfl
 | n + 1, e => by
  show om g n + g n = om h n + h n
  rw [oE n (fun s hs => e s (by omega)), e n (by omega)]
theorem gH (f : Nat → Int) : om (fun s => f (acr s)) 64 = om f 64 := by
 show ((((((((((((((((((((((((((((((((((((((((((((((((((((((((((((((((0 + f 56) + f 57) + f 58) + f 59) + f 60) + f 61) + f 62) + f 63) + f 48) + f 49) + f 50) + f 51) + f 52) + f 53) + f 54) + f 55) + f 40) + f 41) + f 42) + f 43) + f 44) + f 45) + f 46) + f 47) + f 32) + f 33) + f 34) + f 35) + f 36) + f 37) + f 38) + f 39) + f 24) + f 25) + f 26) + f 27) + f 28) + f 29) + f 30) + f 31) + f 16) + f 17) + f 18) + f 19) + f 20) + f 21) + f 22) + f 23) + f 8) + f 9) + f 10) + f 11) + f 12) + f 13) + f 14) + f 15) + f 0) + f 1) + f 2) + f 3) + f 4) + f 5) + f 6) + f 7) = ((((((((((((((((((((((((((((((((((((((((((((((((((((((((((((((((0 + f 0) + f 1) + f 2) + f 3) + f 4) + f 5) + f 6) + f 7) + f 8) + f 9) + f 10) + f 11) + f 12) + f 13) + f 14) + f 15) + f 16) + f 17) + f 18) + f 19) + f 20) + f 21) + f 22) + f 23) + f 24) + f 25) + f 26) + f 27) + f 28) + f 29) + f 30) + f 31) + f 32) + f 33) + f 34) + f 35) + f 36) + f 37) + f 38) + f 39) + f 40) + f 41) + f 42) + f 43) + f 44) + f 45) + f 46) + f 47) + f 48) + f 49) + f 50) + f 51) + f 52) + f 53) + f 54) + f 55) + f 56) + f 57) + f 58) + f 59) + f 60) + f 61) + f 62) + f 63)
 omega
theorem oS (P : Nat → Int) (c : Int) : ∀ n : Nat, kM P c n = om (fun s => if P (s * 2) = 6 ∧ P (s * 2 + 1) = c then 1 else 0) n
 | 0 => rfl
 | n + 1 => by
  show kM P c n + (if P (0 + (n : Int).toNat * 2) = 6 ∧ P (0 + (n : Int).toNat * 2 + 1) = c then 1 else 0) = om _ n + (if P (n * 2) = 6 ∧ P (n * 2 + 1) = c then 1 else 0)
  rw [oS P c n, show 0 + (n : Int).toNat * 2 = n * 2 by omega]
def pQ (P : Nat → Int) : Prop := ∀ s : Nat, s < 64 → (P (s * 2) = 0 ∧ P (s * 2 + 1) = 0) ∨ (1 ≤ P (s * 2) ∧ P (s * 2) ≤ 6 ∧ (P (s * 2 + 1) = 0 ∨ P (s * 2 + 1) = 1))
theorem pV (s : Nat) : sqI (s : Int) = s * 2 := by show 0 + (s : Int).toNat * 2 = _; omega
theorem oh {P Q : Nat → Int} (T : TurnOf P Q) (hP : pQ P) {s : Nat} (hs : s < 64) : Q (acr s * 2) = P (s * 2) ∧ ((P (s * 2) = 0 ∧ P (s * 2 + 1) = 0 ∧ Q (acr s * 2 + 1) = 0) ∨ ((1 ≤ P (s * 2) ∧ P (s * 2) ≤ 6 ∧ (P (s * 2 + 1) = 0 ∨ P (s * 2 + 1) = 1)) ∧ Q (acr s * 2 + 1) = 1 - P (s * 2 + 1))) := by
 obtain ⟨h1, h2⟩ := T.sq s hs
 refine ⟨h1, ?_⟩
 rcases hP s hs with h | h
 ·refine .inl ⟨h.1, h.2, ?_⟩
  rw [h2, pW, if_neg (by rw [YU, decide_eq_false (by omega)]; decide)]; exact h.2
 ·refine .inr ⟨h, ?_⟩
  rw [h2, pW, if_pos (show YU _ _ = true from decide_eq_true h)]
  unfold Y0; split <;> omega
theorem oR {s : Nat} (h : s < 64) : acr (acr s) = s := by unfold acr; omega
theorem gD {P Q R : Nat → Int} (T : TurnOf P Q) (U : TurnOf Q R) (hP : pQ P) (hs : P 128 = 0 ∨ P 128 = 1) : ∀ i, i < 133 → R i = P i := by
 intro i hi
 by_cases a : i < 128
 ·have hl := p5 (s := i / 2) (by omega)
  obtain ⟨u1, u2⟩ := U.sq (acr (i / 2)) hl
  obtain ⟨t1, t2⟩ := oh T hP (s := i / 2) (by omega)
  rw [oR (by omega)] at u1 u2
  by_cases e : i % 2 = 0
  ·rw [show i = i / 2 * 2 by omega, u1, t1]
  ·rw [show i = i / 2 * 2 + 1 by omega, u2, t1]
   rcases t2 with ⟨h0, h1, h2⟩ | ⟨h0, h2⟩
   ·rw [h2, h1, h0, pW, if_neg (by decide)]
   ·rw [pW, if_pos (show YU _ _ = true from decide_eq_true ⟨h0.1, h0.2.1, by omega⟩), h2]
    unfold Y0; split <;> omega
 ·have : i = 128 ∨ i = 129 ∨ i = 130 ∨ i = 131 ∨ i = 132 := by omega
  rcases this with rfl | rfl | rfl | rfl | rfl
  ·rw [U.side, T.side]; unfold Y0; split <;> split <;> omega
  ·rw [U.castle, T.castle]; unfold pJ; split <;> (try split) <;> omega
  ·rw [U.over, T.over]; unfold oe
   by_cases h : isM (P 130) = true
   ·have h' := of_decide_eq_true h
    rw [if_pos h, if_pos (show isM (K4 (P 130)) = true from decide_eq_true (by unfold K4; omega))]
    unfold K4; omega
   ·rw [if_neg h, if_neg h]
  ·rw [U.half, T.half]
  ·rw [U.full, T.full]
theorem ok_turn {P Q : Nat → Int} (T : TurnOf P Q) (hP : pQ P) : (∀ s : Nat, s < 64 → okM Q s) ↔ (∀ s : Nat, s < 64 → okM P s) := by
 have one : ∀ s : Nat, s < 64 → (okM Q (acr s) ↔ okM P s) := fun s hs => by
  have hl := p5 hs
  obtain ⟨t1, t2⟩ := oh T hP hs
  unfold okM
  rw [pV, pV, t1]
  have e : (acr s < 8 ∨ 56 ≤ acr s) ↔ (s < 8 ∨ 56 ≤ s) := by unfold acr; omega
  rw [e]
  omega
 constructor
 ·intro h s hs; exact (one s hs).1 (h _ (p5 hs))
 ·intro h s hs
  have := (one (acr s) (p5 hs)).2 (h _ (p5 hs))
  rwa [oR hs] at this
theorem oA {P Q : Nat → Int} (T : TurnOf P Q) (hP : pQ P) {c : Int} (hc : c = 0 ∨ c = 1) : kM Q c 64 = kM P (1 - c) 64 := by
 rw [oS, oS, ← gH]
 refine oE 64 fun s hs => ?_
 obtain ⟨t1, t2⟩ := oh T hP hs
 show (if Q (acr s * 2) = 6 ∧ Q (acr s * 2 + 1) = c then (1 : Int) else 0) = (if P (s * 2) = 6 ∧ P (s * 2 + 1) = 1 - c then 1 else 0)
 rw [t1]
 by_cases h : P (s * 2) = 6 ∧ P (s * 2 + 1) = 1 - c
 ·rw [if_pos h, if_pos (by omega)]
 ·rw [if_neg h, if_neg (by omega)]
theorem ou {P Q : Nat → Int} (T : TurnOf P Q) (hP : pQ P) {s : Nat} (hs : s < 64) {k c c' : Int} (hk : (k = 0 ∧ c = 0 ∧ c' = 0) ∨ (1 ≤ k ∧ (c = 0 ∨ c = 1) ∧ c' = 1 - c)) : (Q (acr s * 2) = k ∧ Q (acr s * 2 + 1) = c') ↔ (P (s * 2) = k ∧ P (s * 2 + 1) = c) := by
 obtain ⟨t1, t2⟩ := oh T hP hs
 rw [t1]
 omega
theorem ob {P Q : Nat → Int} (T : TurnOf P Q) (hP : pQ P) {c : Int} (hc : c = 0 ∨ c = 1) {a b : Nat} (ha : a < 64) (hb : b < 64) {x y : Int} (hx : x = (acr a : Nat)) (hy : y = (acr b : Nat)) : (Y3 Q (1 - c) x y = true) ↔ (Y3 P c a b = true) := by
 subst hx; subst hy
 unfold Y3
 rw [pV, pV, pV, pV, decide_eq_true_eq, decide_eq_true_eq]
 have h1 := ou T hP ha (k := 6) (c := c) (c' := 1 - c) (.inr ⟨by omega, hc, rfl⟩)
 have h2 := ou T hP hb (k := 4) (c := c) (c' := 1 - c) (.inr ⟨by omega, hc, rfl⟩)
 constructor
 ·rintro ⟨a1, a2, a3, a4⟩
  have := h1.1 ⟨a1, a2⟩; have := h2.1 ⟨a3, a4⟩
  exact ⟨by omega, by omega, by omega, by omega⟩
 ·rintro ⟨a1, a2, a3, a4⟩
  have := h1.2 ⟨a1, a2⟩; have := h2.2 ⟨a3, a4⟩
  exact ⟨by omega, by omega, by omega, by omega⟩
theorem oU {P Q : Nat → Int} (T : TurnOf P Q) (hP : pQ P) : YX Q = YX P := by
 unfold YX
 have w1 := ob T hP (c := 0) (.inl rfl) (a := 4) (b := 7) (by omega) (by omega) (x := 60) (y := 63) rfl rfl
 have w2 := ob T hP (c := 0) (.inl rfl) (a := 4) (b := 0) (by omega) (by omega) (x := 60) (y := 56) rfl rfl
 have b1 := ob T hP (c := 1) (.inr rfl) (a := 60) (b := 63) (by omega) (by omega) (x := 4) (y := 7) rfl rfl
 have b2 := ob T hP (c := 1) (.inr rfl) (a := 60) (b := 56) (by omega) (by omega) (x := 4) (y := 0) rfl rfl
 have w1' : Y3 Q 1 60 63 = true ↔ Y3 P 0 4 7 = true := w1
 have w2' : Y3 Q 1 60 56 = true ↔ Y3 P 0 4 0 = true := w2
 have b1' : Y3 Q 0 4 7 = true ↔ Y3 P 1 60 63 = true := b1
 have b2' : Y3 Q 0 4 0 = true ↔ Y3 P 1 60 56 = true := b2
 rw [Bool.eq_iff_iff, decide_eq_true_eq, decide_eq_true_eq, w1', w2', b1', b2', T.castle]
 generalize (Y3 P 0 4 7 = true) = h1
 generalize (Y3 P 0 4 0 = true) = h2
 generalize (Y3 P 1 60 63 = true) = h3
 generalize (Y3 P 1 60 56 = true) = h4
 generalize P 129 = c
 unfold pJ
 by_cases hc : 0 ≤ c ∧ c ≤ 15
 ·rw [if_pos hc]
  have e1 : (c / 4 + c % 4 * 4) % 2 = 0 ↔ c / 4 % 2 = 0 := by omega
  have e2 : (c / 4 + c % 4 * 4) / 2 % 2 = 0 ↔ c / 8 = 0 := by omega
  have e3 : (c / 4 + c % 4 * 4) / 4 % 2 = 0 ↔ c % 2 = 0 := by omega
  have e4 : (c / 4 + c % 4 * 4) / 8 = 0 ↔ c / 2 % 2 = 0 := by omega
  rw [e1, e2, e3, e4]
  constructor
  ·rintro ⟨_, a1, a2, a3, a4⟩; exact ⟨hc, a3, a4, a1, a2⟩
  ·rintro ⟨_, a1, a2, a3, a4⟩; exact ⟨by omega, a3, a4, a1, a2⟩
 ·rw [if_neg hc]
  constructor
  ·rintro ⟨a, _⟩; exact absurd a hc
  ·rintro ⟨a, _⟩; exact absurd a hc
theorem oP {P Q : Nat → Int} (T : TurnOf P Q) (hP : pQ P) (hs : P 128 = 0 ∨ P 128 = 1) : Xh Q = Xh P := by
 unfold Xh
 rw [Bool.eq_iff_iff, decide_eq_true_eq, decide_eq_true_eq, T.half, T.side, T.over]
 unfold oe
 by_cases h : 0 ≤ P 130 ∧ P 130 < 64
 ·rw [if_pos (show isM (P 130) = true from decide_eq_true h)]
  obtain ⟨x, hx⟩ : ∃ x : Nat, P 130 = x := ⟨(P 130).toNat, by omega⟩
  rw [hx] at h ⊢
  have hxx : x < 64 := by omega
  have hac : K4 (x : Int) = (acr x : Nat) := by unfold K4 acr; omega
  have hal := p5 hxx
  have ho : Y0 (P 128) = 1 - P 128 := by unfold Y0; split <;> omega
  have st : ∀ (s : Nat) (k c c' : Int), s < 64 → ((k = 0 ∧ c = 0 ∧ c' = 0) ∨ (1 ≤ k ∧ (c = 0 ∨ c = 1) ∧ c' = 1 - c)) → ((YY Q (acr s : Nat) k c' = true) ↔ (YY P (s : Nat) k c = true)) := fun s k c c' hs hk => by
   unfold YY
   rw [pV, pV, decide_eq_true_eq, decide_eq_true_eq]
   exact ou T hP hs hk
  rw [hac, ho]
  have hz := st x 0 0 0 hxx (.inl ⟨rfl, rfl, rfl⟩)
  rw [hz]
  by_cases r2 : x / 8 = 2
  ·have e1 : ((acr x : Nat) : Int) + 8 = (acr (x - 8) : Nat) := by unfold acr; omega
   have e2 : ((acr x : Nat) : Int) - 8 = (acr (x + 8) : Nat) := by unfold acr; omega
   have e3 : (x : Int) - 8 = ((x - 8 : Nat) : Int) := by omega
   have e4 : (x : Int) + 8 = ((x + 8 : Nat) : Int) := by omega
   rw [e1, e2, e3, e4, st (x - 8) 0 0 0 (by omega) (.inl ⟨rfl, rfl, rfl⟩), st (x + 8) 1 0 1 (by omega) (.inr ⟨by omega, .inl rfl, rfl⟩)]
   have q1 : ((acr x : Nat) : Int) / 8 = 5 := by unfold acr; omega
   have q2 : (x : Int) / 8 = 2 := by omega
   rw [q1, q2]
   constructor
   ·rintro (a | ⟨a, b, (⟨c1, c2, _⟩ | ⟨c1, _, c3, c4, c5⟩)⟩)
    ·omega
    ·omega
    ·exact .inr ⟨h, b, .inl ⟨by omega, rfl, c3, c4, c5⟩⟩
   ·rintro (a | ⟨a, b, (⟨c1, _, c3, c4, c5⟩ | ⟨c1, c2, _⟩)⟩)
    ·omega
    ·exact .inr ⟨by omega, b, .inr ⟨by omega, rfl, c3, c4, c5⟩⟩
    ·omega
  ·by_cases r5 : x / 8 = 5
   ·have e1 : ((acr x : Nat) : Int) - 8 = (acr (x + 8) : Nat) := by unfold acr; omega
    have e2 : ((acr x : Nat) : Int) + 8 = (acr (x - 8) : Nat) := by unfold acr; omega
    have e3 : (x : Int) - 8 = ((x - 8 : Nat) : Int) := by omega
    have e4 : (x : Int) + 8 = ((x + 8 : Nat) : Int) := by omega
    rw [e1, e2, e3, e4, st (x + 8) 0 0 0 (by omega) (.inl ⟨rfl, rfl, rfl⟩), st (x - 8) 1 1 0 (by omega) (.inr ⟨by omega, .inr rfl, rfl⟩)]
    have q1 : ((acr x : Nat) : Int) / 8 = 2 := by unfold acr; omega
    have q2 : (x : Int) / 8 = 5 := by omega
    rw [q1, q2]
    constructor
    ·rintro (a | ⟨a, b, (⟨c1, _, c3, c4, c5⟩ | ⟨c1, c2, _⟩)⟩)
     ·omega
     ·exact .inr ⟨h, b, .inr ⟨by omega, rfl, c3, c4, c5⟩⟩
     ·omega
    ·rintro (a | ⟨a, b, (⟨c1, c2, _⟩ | ⟨c1, _, c3, c4, c5⟩)⟩)
     ·omega
     ·omega
     ·exact .inr ⟨by omega, b, .inl ⟨by omega, rfl, c3, c4, c5⟩⟩
   ·have q1 : ¬ ((acr x : Nat) : Int) / 8 = 2 := by unfold acr; omega
    have q2 : ¬ ((acr x : Nat) : Int) / 8 = 5 := by unfold acr; omega
    constructor
    ·rintro (a | ⟨a, b, (⟨_, c2, _⟩ | ⟨_, c2, _⟩)⟩)
     ·omega
     ·exact absurd c2 q1
     ·exact absurd c2 q2
    ·rintro (a | ⟨a, b, (⟨_, c2, _⟩ | ⟨_, c2, _⟩)⟩) <;> omega
 ·rw [if_neg (show ¬ isM (P 130) = true from fun e => h (of_decide_eq_true e))]
  constructor
  ·rintro (a | ⟨a, _⟩)
   ·exact .inl a
   ·exact absurd a h
  ·rintro (a | ⟨a, _⟩)
   ·exact .inl a
   ·exact absurd a h
theorem oB {P Q : Nat → Int} (T : TurnOf P Q) (hP : pQ P) (hs : P 128 = 0 ∨ P 128 = 1) : Vq Q = Vq P := by
 have hp : Wz Q = Wz P := by
  unfold Wz
  rw [Bool.eq_iff_iff, decide_eq_true_eq, decide_eq_true_eq, ok_turn T hP, oA T hP (c := 0) (.inl rfl), oA T hP (c := 1) (.inr rfl), T.side]
  have ho : Y0 (P 128) = 1 - P 128 := by unfold Y0; split <;> omega
  rw [ho]
  constructor
  ·rintro ⟨a, b, c, d⟩; exact ⟨a, c, b, hs⟩
  ·rintro ⟨a, b, c, d⟩; exact ⟨a, c, b, by omega⟩
 unfold Vq
 rw [hp, oU T hP, oP T hP hs, T.half, T.full]
theorem p8 {p q : Prop} [Decidable p] [Decidable q] (h : p ↔ q) : decide p = decide q := decide_eq_decide.2 h
theorem gm {x : Int} (h : 0 ≤ x ∧ x < 64) : K4 (K4 x) = x := by unfold K4; omega
theorem pX {x : Int} (h : 0 ≤ x ∧ x < 64) : K4 x % 8 = x % 8 := by unfold K4; omega
theorem pU {x : Int} (h : 0 ≤ x ∧ x < 64) : K4 x / 8 = 7 - x / 8 := by unfold K4; omega
theorem p6 {a b : Int} (ha : 0 ≤ a ∧ a < 64) (hb : 0 ≤ b ∧ b < 64) : K4 a = K4 b ↔ a = b := by unfold K4; omega
theorem gh (a b : Int) : XF (7 - b - (7 - a)) = XF (b - a) := by unfold XF; split <;> split <;> omega
theorem gv {a b : Int} (ha : 0 ≤ a ∧ a < 64) (hb : 0 ≤ b ∧ b < 64) : Wt (K4 a) (K4 b) = Wt a b := by
 unfold Wt
 rw [pX ha, pX hb, pU ha, pU hb, Bool.eq_iff_iff, decide_eq_true_eq, decide_eq_true_eq]
 omega
theorem gC {a b : Int} (ha : 0 ≤ a ∧ a < 64) (hb : 0 ≤ b ∧ b < 64) : Wq (K4 a) (K4 b) = Wq a b := by
 unfold Wq
 rw [pX ha, pX hb, pU ha, pU hb, gh]
def gr (a b : Int) : Bool := !(Wt a b || Wq a b) || (ja (ED (K4 a) (K4 b)) ((ED a b).map K4) && (ED a b).all fun t => decide (0 ≤ t ∧ t < 64))
theorem gd : (QH fun a => QH fun b => gr a b) = true := by decide +kernel
theorem oo (P : Nat → Int) (a b : Int) : UE P a b = (ED a b).all fun t => YP P t := by
 unfold UE ED
 rw [List.all_map]; rfl
theorem ow {P Q : Nat → Int} (T : TurnOf P Q) {a b : Int} (ha : 0 ≤ a ∧ a < 64) (hb : 0 ≤ b ∧ b < 64) (h : (Wt a b || Wq a b) = true) : UE Q (K4 a) (K4 b) = UE P a b := by
 obtain ⟨x, rfl⟩ := QM ha
 obtain ⟨y, rfl⟩ := QM hb
 have h1 := Ve (Ve gd x) y
 unfold gr at h1
 rw [h, Bool.not_true, Bool.false_or, Bool.and_eq_true] at h1
 rw [oo, oo, kb h1.1, List.all_map, Bool.eq_iff_iff, List.all_eq_true, List.all_eq_true]
 have hb := List.all_eq_true.1 h1.2
 constructor
 ·intro k t ht; rw [← pT T (of_decide_eq_true (hb t ht))]; exact k t ht
 ·intro k t ht; show YP Q (K4 t) = true; rw [pT T (of_decide_eq_true (hb t ht))]; exact k t ht
theorem oz {k c : Int} (h : (1 ≤ k ∧ k ≤ 6) ∧ (c = 0 ∨ c = 1)) : YU k c = true := decide_eq_true ⟨h.1.1, h.1.2, h.2⟩
theorem ox {k c : Int} (h : ¬ ((1 ≤ k ∧ k ≤ 6) ∧ (c = 0 ∨ c = 1))) : YU k c = false := decide_eq_false fun q => h ⟨⟨q.1, q.2.1⟩, q.2.2⟩
theorem pM {P Q : Nat → Int} (T : TurnOf P Q) {a : Int} (ha : 0 ≤ a ∧ a < 64) : Q (sqI (K4 a)) = P (sqI a) ∧ (((1 ≤ P (sqI a) ∧ P (sqI a) ≤ 6) ∧ (P (sqI a + 1) = 0 ∨ P (sqI a + 1) = 1)) ∧ Q (sqI (K4 a) + 1) = 1 - P (sqI a + 1) ∨ ¬ ((1 ≤ P (sqI a) ∧ P (sqI a) ≤ 6) ∧ (P (sqI a + 1) = 0 ∨ P (sqI a + 1) = 1)) ∧ Q (sqI (K4 a) + 1) = P (sqI a + 1)) := by
 have ⟨hk, hc⟩ := oC T.sq ha
 refine ⟨hk, ?_⟩
 by_cases m : (1 ≤ P (sqI a) ∧ P (sqI a) ≤ 6) ∧ (P (sqI a + 1) = 0 ∨ P (sqI a + 1) = 1)
 ·exact .inl ⟨m, by rw [hc, pZ m.1 m.2]⟩
 ·exact .inr ⟨m, by rw [hc, oa fun q => m ⟨⟨q.1, q.2.1⟩, q.2.2⟩]⟩
theorem oq {P Q : Nat → Int} (T : TurnOf P Q) {a b : Int} (ha : 0 ≤ a ∧ a < 64) (hb : 0 ≤ b ∧ b < 64) : Xb Q (K4 a) (K4 b) = Xb P a b := by
 obtain ⟨hk, hs⟩ := pM T ha
 have lo : (Wt a b && UE Q (K4 a) (K4 b)) = (Wt a b && UE P a b) := by
  cases e : Wt a b with
  | false => rfl
  | true => rw [ow T ha hb (by rw [e]; rfl)]
 have dg : (Wq a b && UE Q (K4 a) (K4 b)) = (Wq a b && UE P a b) := by
  cases e : Wq a b with
  | false => rfl
  | true => rw [ow T ha hb (by rw [e, Bool.or_true])]
 have ld : ((Wt a b || Wq a b) && UE Q (K4 a) (K4 b)) = ((Wt a b || Wq a b) && UE P a b) := by
  cases e : (Wt a b || Wq a b) with
  | false => rfl
  | true => rw [ow T ha hb e]
 unfold Xb
 rw [hk]
 rcases hs with ⟨m, hs⟩ | ⟨m, hs⟩
 ·rw [hs]
  unfold KI
  rw [oz m, oz (k := P (sqI a)) (c := 1 - P (sqI a + 1)) ⟨m.1, by omega⟩]
  by_cases q : a = b
  ·rw [if_pos (.inr (by rw [q])), if_pos (.inr q)]
  ·rw [if_neg (show ¬ (true = false ∨ K4 a = K4 b) from fun h => h.elim (fun h => Bool.noConfusion h) fun h => q ((p6 ha hb).1 h)), if_neg (show ¬ (true = false ∨ a = b) from fun h => h.elim (fun h => Bool.noConfusion h) q)]
   rw [gv ha hb, gC ha hb, pX ha, pX hb, pU ha, pU hb, gh, lo, dg, ld]
   rw [p8 (show (XF (b % 8 - a % 8) = 1 ∧ 7 - b / 8 - (7 - a / 8) = 1 - 2 * (1 - P (sqI a + 1))) ↔ (XF (b % 8 - a % 8) = 1 ∧ b / 8 - a / 8 = 1 - 2 * P (sqI a + 1)) by omega)]
 ·rw [hs]
  unfold KI
  rw [if_pos (.inl (ox m)), if_pos (.inl (ox m))]
theorem gi {P : Nat → Int} {a b : Int} (h : Xb P a b = true) : (1 ≤ P (sqI a) ∧ P (sqI a) ≤ 6) ∧ (P (sqI a + 1) = 0 ∨ P (sqI a + 1) = 1) := by
 unfold Xb KI at h
 by_cases m : (1 ≤ P (sqI a) ∧ P (sqI a) ≤ 6) ∧ (P (sqI a + 1) = 0 ∨ P (sqI a + 1) = 1)
 ·exact m
 ·rw [if_pos (.inl (ox m))] at h; cases h
theorem gz {P : Nat → Int} {c a s : Int} (ha : 0 ≤ a ∧ a < 64) (hs : 0 ≤ s ∧ s < 64) : QJ P c s a = true ↔ P (sqI a + 1) = c ∧ Xb P a s = true := by
 unfold QJ
 rw [Bool.and_eq_true, decide_eq_true_eq, decide_eq_true_eq, TH ha hs]
theorem oy {P : Nat → Int} {c s : Int} (hs : 0 ≤ s ∧ s < 64) : Vx P c s = true ↔ ∃ a, (0 ≤ a ∧ a < 64) ∧ P (sqI a + 1) = c ∧ Xb P a s = true := by
 unfold Vx
 rw [List.any_eq_true]
 constructor
 ·rintro ⟨a, ha, h⟩; exact ⟨a, mem64.1 ha, (gz (mem64.1 ha) hs).1 h⟩
 ·rintro ⟨a, ha, h⟩; exact ⟨a, mem64.2 ha, (gz ha hs).2 h⟩
theorem oc {P Q : Nat → Int} (T : TurnOf P Q) {c s : Int} (hs : 0 ≤ s ∧ s < 64) : Vx Q (1 - c) (K4 s) = Vx P c s := by
 rw [Bool.eq_iff_iff, oy hs, oy (pL hs)]
 constructor
 ·rintro ⟨a, ha, h1, h2⟩
  have hb := pL ha
  rw [← gm ha] at h1 h2
  rw [oq T hb hs] at h2
  obtain ⟨_, h3⟩ := pM T hb
  have m := gi h2
  refine ⟨K4 a, hb, ?_, h2⟩
  rcases h3 with ⟨_, h3⟩ | ⟨h3, _⟩
  ·omega
  ·exact absurd m h3
 ·rintro ⟨a, ha, h1, h2⟩
  refine ⟨K4 a, pL ha, ?_, by rw [oq T ha hs]; exact h2⟩
  obtain ⟨_, h3⟩ := pM T ha
  rcases h3 with ⟨_, h3⟩ | ⟨h3, _⟩
  ·omega
  ·exact absurd (gi h2) h3
theorem find_mem {P : Nat → Int} {c x : Int} : x ∈ R8 P (RV c) ↔ (0 ≤ x ∧ x < 64) ∧ P (sqI x) = 6 ∧ P (sqI x + 1) = c := by
 unfold R8
 rw [List.mem_filter, mem64]
 unfold isX
 rw [decide_eq_true_eq]
 exact Iff.rfl
theorem pz {P : Nat → Int} {c : Int} (hc : c = 0 ∨ c = 1) : Xu P c = true ↔ ∃ x, ((0 ≤ x ∧ x < 64) ∧ P (sqI x) = 6 ∧ P (sqI x + 1) = c) ∧ Vx P (1 - c) x = true := by
 unfold Xu
 rw [if_pos hc, V5 hc, List.any_eq_true]
 constructor
 ·rintro ⟨x, hx, h⟩; exact ⟨x, find_mem.1 hx, h⟩
 ·rintro ⟨x, hx, h⟩; exact ⟨x, find_mem.2 hx, h⟩
theorem ot {P Q : Nat → Int} (T : TurnOf P Q) {c : Int} (hc : c = 0 ∨ c = 1) : Xu Q (1 - c) = Xu P c := by
 rw [Bool.eq_iff_iff, pz hc, pz (by omega)]
 constructor
 ·rintro ⟨x, ⟨hx, h1, h2⟩, h3⟩
  have hb := pL hx
  rw [← gm hx] at h1 h2 h3
  rw [oc T hb] at h3
  obtain ⟨h4, h5⟩ := pM T hb
  refine ⟨K4 x, ⟨hb, by rw [← h4]; exact h1, ?_⟩, h3⟩
  omega
 ·rintro ⟨x, ⟨hx, h1, h2⟩, h3⟩
  obtain ⟨h4, h5⟩ := pM T hx
  refine ⟨K4 x, ⟨pL hx, by rw [h4]; exact h1, by omega⟩, ?_⟩
  rw [oc T hx]; exact h3
theorem t7 {P : Nat → Int} (h : Vq P = true) : pQ P ∧ (P 128 = 0 ∨ P 128 = 1) := by
 unfold Vq at h
 simp only [Bool.and_eq_true] at h
 have h := JW h.1.1.1
 refine ⟨fun s hs => ?_, h.2.2.2⟩
 have := h.1 s hs
 unfold okM at this
 rw [pV] at this
 omega
theorem oO {P Q : Nat → Int} (T : TurnOf P Q) (hP : pQ P) (hs : P 128 = 0 ∨ P 128 = 1) : XG Q = XG P := by
 unfold XG
 rw [oB T hP hs, T.side, V5 hs, V5 (x := 1 - P 128) (by omega), show (1 : Int) - (1 - P 128) = P 128 by omega, ← ot T (c := 1 - P 128) (by omega), show (1 : Int) - (1 - P 128) = P 128 by omega]
theorem pP {P Q : Nat → Int} (T : TurnOf P Q) {t : Int} (ht : 0 ≤ t ∧ t < 64) : YL Q (K4 t) = YL P t := by
 unfold YL isM
 rw [pT T ht, decide_eq_true ht, decide_eq_true (pL ht)]
theorem oQ {P : Nat → Int} (hP : pQ P) {x : Int} (hx : 0 ≤ x ∧ x < 64) : YP P x = true ∨ ((1 ≤ P (sqI x) ∧ P (sqI x) ≤ 6) ∧ (P (sqI x + 1) = 0 ∨ P (sqI x + 1) = 1)) := by
 have h := hP x.toNat (by omega)
 have e : sqI x = x.toNat * 2 := by show 0 + x.toNat * 2 = _; omega
 rw [yu, e]
 omega
theorem over_eq {P Q : Nat → Int} (T : TurnOf P Q) {t : Int} (ht : 0 ≤ t ∧ t < 64) : K4 t = Q 130 ↔ t = P 130 := by
 rw [T.over]
 unfold oe isM
 by_cases q : 0 ≤ P 130 ∧ P 130 < 64
 ·rw [if_pos (decide_eq_true q)]; unfold K4; omega
 ·rw [if_neg (by rw [decide_eq_false q]; decide)]; unfold K4; omega
theorem gO {P Q : Nat → Int} (T : TurnOf P Q) (hP : pQ P) {s t c : Int} (hs : 0 ≤ s ∧ s < 64) (ht : 0 ≤ t ∧ t < 64) (hc : c = 0 ∨ c = 1) : goP Q (K4 s) (K4 t) (1 - c) = goP P s t c := by
 unfold goP
 by_cases h1 : t = s + 8 * (1 - 2 * c)
 ·rw [if_pos h1, if_pos (by unfold K4; omega), pP T ht]
 ·rw [if_neg h1, if_neg (by unfold K4; omega)]
  by_cases h2 : t = s + 16 * (1 - 2 * c) ∧ s / 8 = 1 + 5 * c
  ·rw [if_pos h2, if_pos (by unfold K4; omega), pP T ht]
   rw [show K4 s + 8 * (1 - 2 * (1 - c)) = K4 (s + 8 * (1 - 2 * c)) by unfold K4; omega, pP T (by omega)]
  ·rw [if_neg h2, if_neg (by unfold K4; omega), oq T hs ht, pP T ht, pT T ht, p8 (over_eq T ht)]
   rcases oQ hP ht with e | m
   ·rw [e]; rfl
   ·obtain ⟨_, h3⟩ := pM T ht
    have h4 : Q (sqI (K4 t) + 1) = 1 - P (sqI t + 1) := h3.elim (·.2) fun h => absurd m h.1
    have h5 : XZ Q (K4 t) = Y0 (1 - c) ↔ XZ P t = Y0 c := by
     unfold XZ
     rw [h4, V5 hc, V5 (by omega)]; omega
    rw [p8 h5]
theorem oJ {P Q : Nat → Int} (T : TurnOf P Q) {c t : Int} (hc : c = 0 ∨ c = 1) (ht : 0 ≤ t ∧ t < 64) : Vj Q (1 - c) (K4 t) = Vj P c t := by
 obtain ⟨h1, h2⟩ := pM T ht
 unfold Vj
 rw [Bool.eq_iff_iff, decide_eq_true_eq, decide_eq_true_eq, h1]
 omega
theorem cast_at {C : Int} (h : 0 ≤ C ∧ C ≤ 15) {c : Int} (hc : c = 0 ∨ c = 1) : pJ C / YO (1 - c) % 2 = C / YO c % 2 ∧ pJ C / (2 * YO (1 - c)) % 2 = C / (2 * YO c) % 2 := by
 obtain ⟨n, rfl⟩ : ∃ n : Nat, C = n := ⟨C.toNat, by omega⟩
 have ⟨b1, b2, b3, b4⟩ := oG ⟨n, by omega⟩
 simp only at b1 b2 b3 b4
 rcases hc with rfl | rfl
 ·exact ⟨b1, b2⟩
 ·exact ⟨b3, b4⟩
theorem gN {P Q : Nat → Int} (T : TurnOf P Q) {s t c : Int} (hs : 0 ≤ s ∧ s < 64) (ht : 0 ≤ t ∧ t < 64) (hc : c = 0 ∨ c = 1) : goC Q (K4 s) (K4 t) (1 - c) = goC P s t c := by
 unfold goC
 by_cases h : s ≠ 56 * c + 4 ∨ P 129 < 0 ∨ 15 < P 129
 ·rw [if_pos h, if_pos]
  rcases h with h | h
  ·exact .inl (by unfold K4; omega)
  ·refine .inr ?_
   rw [T.castle]; unfold pJ; rw [if_neg (by omega)]; exact h
 ·have hC : 0 ≤ P 129 ∧ P 129 ≤ 15 := by omega
  obtain ⟨b1, b2⟩ := cast_at hC hc
  have hq : Q 129 = pJ (P 129) := T.castle
  have hqb : 0 ≤ pJ (P 129) ∧ pJ (P 129) ≤ 15 := by unfold pJ; rw [if_pos hC]; omega
  have hq2 : ¬ (Q 129 < 0 ∨ 15 < Q 129) := by rw [hq]; omega
  have hse : s = 56 * c + 4 := by omega
  have hse2 : K4 s = 56 * (1 - c) + 4 := by unfold K4; omega
  rw [if_neg h, if_neg (fun q => q.elim (fun q => q hse2) hq2), hq, b1, b2]
  rw [show K4 s + 3 = K4 (s + 3) by unfold K4; omega, show K4 s - 4 = K4 (s - 4) by unfold K4; omega,
   show K4 s + 1 = K4 (s + 1) by unfold K4; omega, show K4 s - 1 = K4 (s - 1) by unfold K4; omega,
   show K4 s + 2 = K4 (s + 2) by unfold K4; omega, show K4 s - 2 = K4 (s - 2) by unfold K4; omega, show K4 s - 3 = K4 (s - 3) by unfold K4; omega]
  rw [oJ T hc (by omega), oJ T hc (by omega), pP T (by omega), pP T (by omega), pP T (by omega), pP T (by omega), pP T (by omega)]
  rw [p8 (p6 ht (show 0 ≤ s - 2 ∧ s - 2 < 64 by omega))]
  by_cases e : t = s + 2
  ·rw [if_pos e, if_pos ((p6 ht (by omega)).2 e)]
  ·rw [if_neg e, if_neg fun q => e ((p6 ht (by omega)).1 q)]
theorem oH {P Q : Nat → Int} (T : TurnOf P Q) (hP : pQ P) (hd : P 128 = 0 ∨ P 128 = 1) {s t : Int} (hs : 0 ≤ s ∧ s < 64) (ht : 0 ≤ t ∧ t < 64) : WN Q (K4 s) (K4 t) = WN P s t := by
 obtain ⟨hk, h3⟩ := pM T hs
 unfold WN
 rw [p8 (not_congr (p6 hs ht)), hk]
 rcases h3 with ⟨m, h3⟩ | ⟨m, h3⟩
 ·have hm : We Q (K4 s) = We P s := by
   unfold We
   rw [hk, h3, oz m, oz (k := P (sqI s)) (c := 1 - P (sqI s + 1)) ⟨m.1, by omega⟩, T.side, V5 hd]
   exact congrArg _ (p8 (by omega))
  rw [hm, h3]
  refine congrArg _ ?_
  unfold goK
  by_cases e : P (sqI s) = 1
  ·rw [if_pos e, if_pos e, gO T hP hs ht m.2]
  ·rw [if_neg e, if_neg e, oq T hs ht, gN T hs ht m.2]
   have ho : Vs Q (1 - P (sqI s + 1)) (K4 t) = Vs P (P (sqI s + 1)) t := by
    unfold Vs
    rw [pT T ht]
    rcases oQ hP ht with e | m2
    ·rw [e]; rfl
    ·obtain ⟨_, h5⟩ := pM T ht
     have h6 : Q (sqI (K4 t) + 1) = 1 - P (sqI t + 1) := h5.elim (·.2) fun h => absurd m2 h.1
     refine congrArg _ (p8 ?_)
     unfold XZ
     rw [h6]; omega
   rw [ho]
 ·have e1 : We Q (K4 s) = false := by unfold We; rw [hk, h3, ox m, Bool.false_and]
  have e2 : We P s = false := by unfold We; rw [ox m, Bool.false_and]
  rw [e1, e2, Bool.false_and, Bool.false_and, Bool.false_and]
def mvT (m : Mv) : Mv := (K4 m.1, K4 m.2.1, m.2.2)
theorem gQ {s t k c : Int} (ht : 0 ≤ t ∧ t < 64) (hc : c = 0 ∨ c = 1) : toM (K4 s) k (1 - c) (K4 t) = (toM s k c t).map mvT := by
 have he : xd k (1 - c) (K4 t) = xd k c t := by
  unfold xd
  rw [pU ht]
  exact p8 (by omega)
 unfold toM
 rw [he]
 split <;> rfl
theorem allR_of {P : Nat → Int} {m : Mv} (hs : 0 ≤ m.1 ∧ m.1 < 64) (ht : 0 ≤ m.2.1 ∧ m.2.1 < 64) (hg : WN P m.1 m.2.1 = true) (hm : m ∈ toM m.1 (P (sqI m.1)) (P (sqI m.1 + 1)) m.2.1) : m ∈ UB P 64 := by
 unfold UB
 rw [List.mem_flatMap]
 refine ⟨m.1, mem64.2 hs, ?_⟩
 unfold VN
 rw [List.mem_flatMap]
 exact ⟨m.2.1, mem64.2 ht, by rw [if_pos hg]; exact hm⟩
theorem gG {P Q : Nat → Int} (T : TurnOf P Q) (hP : pQ P) (hd : P 128 = 0 ∨ P 128 = 1) {m : Mv} (h : m ∈ UB P 64) : mvT m ∈ UB Q 64 := by
 obtain ⟨hs, ht, hg, hm⟩ := D9 h
 obtain ⟨h1, h2, _⟩ := RZ hg
 obtain ⟨hk, h3⟩ := pM T hs
 have h4 : Q (sqI (K4 m.1) + 1) = 1 - P (sqI m.1 + 1) := h3.elim (·.2) fun h => absurd ⟨h1, h2⟩ h.1
 refine allR_of (m := mvT m) (pL hs) (pL ht) (by show WN Q (K4 m.1) (K4 m.2.1) = true; rw [oH T hP hd hs ht]; exact hg) ?_
 show mvT m ∈ toM (K4 m.1) (Q (sqI (K4 m.1))) (Q (sqI (K4 m.1) + 1)) (K4 m.2.1)
 rw [hk, h4, gQ ht h2]
 exact List.mem_map_of_mem hm
theorem gj {P : Nat → Int} {s t : Int} (hs : 0 ≤ s ∧ s < 64) (ht : 0 ≤ t ∧ t < 64) (hg : WN P s t = true) (h : X8 P s t = true) : (s = 4 ∨ s = 60) ∧ (t = s + 2 ∨ t = s - 2) := by
 unfold X8 at h
 rw [decide_eq_true_eq] at h
 obtain ⟨h1, h2⟩ := h
 obtain ⟨_, hc, _, _⟩ := RZ hg
 unfold WN at hg
 rw [Bool.and_eq_true] at hg
 have hg := hg.2
 unfold goK at hg
 rw [if_neg (by omega), Bool.or_eq_true, Bool.and_eq_true, Bool.and_eq_true] at hg
 rcases hg with ⟨ha, _⟩ | ⟨_, hg⟩
 ·have := jf ha h1
  unfold XF at this
  split at this <;> omega
 ·unfold goC at hg
  split at hg
  ·cases hg
  ·omega
theorem sq_same {P Q : Nat → Int} (h : ∀ i, i < 128 → Q i = P i) (c : Int) (hc : c = 0 ∨ c = 1) : Xu Q c = Xu P c := by
 have hx : ∀ x : Int, 0 ≤ x ∧ x < 64 → Q (sqI x) = P (sqI x) ∧ Q (sqI x + 1) = P (sqI x + 1) := fun x hx => by
  have hq : sqI x = 0 + x.toNat * 2 := rfl
  exact ⟨h _ (by omega), h _ (by omega)⟩
 have he : ∀ x : Int, 0 ≤ x ∧ x < 64 → YP Q x = YP P x := fun x hb => by
  rw [Bool.eq_iff_iff, yu, yu, (hx x hb).1, (hx x hb).2]
 have ho : ∀ a b : Int, 0 ≤ a ∧ a < 64 → 0 ≤ b ∧ b < 64 → (Wt a b || Wq a b) = true → UE Q a b = UE P a b := fun a b ha hb hl => by
  obtain ⟨x, rfl⟩ := QM ha
  obtain ⟨y, rfl⟩ := QM hb
  have h1 := Ve (Ve gd x) y
  unfold gr at h1
  rw [hl, Bool.not_true, Bool.false_or, Bool.and_eq_true] at h1
  have hb := List.all_eq_true.1 h1.2
  rw [oo, oo, Bool.eq_iff_iff, List.all_eq_true, List.all_eq_true]
  constructor
  ·intro k t ht; rw [← he t (of_decide_eq_true (hb t ht))]; exact k t ht
  ·intro k t ht; rw [he t (of_decide_eq_true (hb t ht))]; exact k t ht
 have ha : ∀ a b : Int, 0 ≤ a ∧ a < 64 → 0 ≤ b ∧ b < 64 → Xb Q a b = Xb P a b := fun a b ha hb => by
  unfold Xb
  rw [(hx a ha).1, (hx a ha).2]
  unfold KI
  have lo : (Wt a b && UE Q a b) = (Wt a b && UE P a b) := by
   cases e : Wt a b with
   | false => rfl
   | true => rw [ho a b ha hb (by rw [e]; rfl)]
  have dg : (Wq a b && UE Q a b) = (Wq a b && UE P a b) := by
   cases e : Wq a b with
   | false => rfl
   | true => rw [ho a b ha hb (by rw [e, Bool.or_true])]
  have ld : ((Wt a b || Wq a b) && UE Q a b) = ((Wt a b || Wq a b) && UE P a b) := by
   cases e : (Wt a b || Wq a b) with
   | false => rfl
   | true => rw [ho a b ha hb e]
  rw [lo, dg, ld]
 rw [Bool.eq_iff_iff, pz hc, pz hc]
 have hy : ∀ x : Int, 0 ≤ x ∧ x < 64 → (Vx Q (1 - c) x = true ↔ Vx P (1 - c) x = true) := fun x hb => by
  rw [oy hb, oy hb]
  constructor
  ·rintro ⟨a, h1, h2, h3⟩; exact ⟨a, h1, by rw [← (hx a h1).2]; exact h2, by rw [← ha a x h1 hb]; exact h3⟩
  ·rintro ⟨a, h1, h2, h3⟩; exact ⟨a, h1, by rw [(hx a h1).2]; exact h2, by rw [ha a x h1 hb]; exact h3⟩
 constructor
 ·rintro ⟨x, ⟨h1, h2, h3⟩, h4⟩; exact ⟨x, ⟨h1, by rw [← (hx x h1).1]; exact h2, by rw [← (hx x h1).2]; exact h3⟩, (hy x h1).1 h4⟩
 ·rintro ⟨x, ⟨h1, h2, h3⟩, h4⟩; exact ⟨x, ⟨h1, by rw [(hx x h1).1]; exact h2, by rw [(hx x h1).2]; exact h3⟩, (hy x h1).2 h4⟩
theorem gp {P Q : Nat → Int} (T : TurnOf P Q) (hP : pQ P) (hd : P 128 = 0 ∨ P 128 = 1) {m : Mv} (h : m ∈ UB P 64) {S : Nat → Int} (U : TurnOf (ovA (fun _ => 0) 0 133 (XI P m.1 m.2.1 m.2.2)) S) : Wi Q (mvT m) = Wi P m := by
 obtain ⟨hs, ht, hg, hm⟩ := D9 h
 have he := mv_can h
 have hw := gj hs ht hg
 obtain ⟨hk, h3⟩ := pM T hs
 have hc : X8 Q (K4 m.1) (K4 m.2.1) = X8 P m.1 m.2.1 := by
  have hg2 := oH T hP hd hs ht
  rw [hg] at hg2
  have hw2 := gj (pL hs) (pL ht) hg2
  rw [Bool.eq_iff_iff]
  constructor
  ·intro q
   have h1 := hw2 q
   unfold X8 at q ⊢
   rw [decide_eq_true_eq] at q ⊢
   rw [hk] at q
   refine ⟨q.1, ?_⟩
   unfold K4 at h1; omega
  ·intro q
   have h1 := hw q
   unfold X8 at q ⊢
   rw [decide_eq_true_eq] at q ⊢
   rw [hk]
   refine ⟨q.1, ?_⟩
   unfold K4; omega
 have hmv := gB T hd he hs ht U
 have e0 : ovA (fun _ => 0) 0 133 (XI P m.1 m.2.1 m.2.2) = XI P m.1 m.2.1 m.2.2 := JA fun i hi => x6 hi
 rw [e0] at U
 have hchk : Xu (XI Q (K4 m.1) (K4 m.2.1) m.2.2) (Q 128) = Xu (XI P m.1 m.2.1 m.2.2) (P 128) := by
  rw [T.side, V5 hd, ← ot U hd]
  exact sq_same (fun i hi => (hmv i (by omega) (by omega)).symm) _ (by omega)
 unfold Wi mvT
 simp only []
 rw [hc, oW T hd hs ht, hchk]
 cases hcs : X8 P m.1 m.2.1 with
 | false => rfl
 | true =>
  have h1 := hw hcs
  have hsafe : zF Q [K4 m.1, (K4 m.1 + K4 m.2.1) / 2] = zF P [m.1, (m.1 + m.2.1) / 2] := by
   unfold zF
   rw [show (K4 m.1 + K4 m.2.1) / 2 = K4 ((m.1 + m.2.1) / 2) by unfold K4; omega]
   simp only [List.any_cons, List.any_nil, T.side, V5 hd]
   rw [V5 (x := 1 - P 128) (by omega), oc T hs, oc T (show 0 ≤ (m.1 + m.2.1) / 2 ∧ (m.1 + m.2.1) / 2 < 64 by omega)]
  rw [hsafe]
theorem us {P : Nat → Int} (h : XG P = true) : Vq P = true := by
 unfold XG at h
 rw [Bool.and_eq_true] at h
 exact h.1
theorem Em {P : Nat → Int} (hz : ∀ i, 133 ≤ i → P i = 0) : WT P = if XG P = true then (UB P 64).filter (Wi P) else [] := by
 unfold WT yj
 rw [JA hz, allS_is]
theorem oI {P : Nat → Int} (hz : ∀ i, 133 ≤ i → P i = 0) {m : Mv} : m ∈ WT P ↔ XG P = true ∧ m ∈ UB P 64 ∧ Wi P m = true := by
 rw [Em hz]
 by_cases hp : XG P = true
 ·rw [if_pos hp, List.mem_filter]; simp [hp]
 ·rw [if_neg hp]; simp [hp]
theorem oK {P Q : Nat → Int} (T : TurnOf P Q) (hz : ∀ i, 133 ≤ i → P i = 0) (hR : Vq P = true) {m : Mv} (h : m ∈ WT P) : mvT m ∈ WT Q := by
 obtain ⟨hP, hd⟩ := t7 hR
 obtain ⟨h1, h2, h3⟩ := (oI hz).1 h
 obtain ⟨S, U, _⟩ := pY (ovA (fun _ => 0) 0 133 (XI P m.1 m.2.1 m.2.2))
 exact (oI T.out).2 ⟨by rw [oO T hP hd]; exact h1, gG T hP hd h2, by rw [gp T hP hd h2 U]; exact h3⟩
theorem turn_eq {P Q R : Nat → Int} (T : TurnOf P Q) (U : TurnOf Q R) (hz : ∀ i, 133 ≤ i → P i = 0) (hR : Vq P = true) : R = P := by
 obtain ⟨hP, hd⟩ := t7 hR
 funext i
 by_cases h : i < 133
 ·exact gD T U hP hd i h
 ·rw [U.out i (by omega), hz i (by omega)]
theorem gI {P Q : Nat → Int} (T : TurnOf P Q) (hz : ∀ i, 133 ≤ i → P i = 0) (hR : Vq P = true) : 0 < (WT Q).length ↔ 0 < (WT P).length := by
 obtain ⟨hP, hd⟩ := t7 hR
 have hRQ : Vq Q = true := by rw [oB T hP hd]; exact hR
 rw [List.length_pos_iff_exists_mem, List.length_pos_iff_exists_mem]
 constructor
 ·rintro ⟨m, hm⟩
  obtain ⟨R, U, _⟩ := pY Q
  have := oK U T.out hRQ hm
  rw [turn_eq T U hz hR] at this
  exact ⟨_, this⟩
 ·rintro ⟨m, hm⟩
  exact ⟨_, oK T hz hR hm⟩
theorem p7 {P Q : Nat → Int} (T : TurnOf P Q) (hz : ∀ i, 133 ≤ i → P i = 0) (hR : Vq P = true) : XG Q = XG P ∧ (0 < (WT Q).length ↔ 0 < (WT P).length) ∧ Xu Q (Q 128) = Xu P (P 128) ∧ Q 128 = 1 - P 128 ∧ (P 128 = 0 ∨ P 128 = 1) := by
 obtain ⟨hP, hd⟩ := t7 hR
 have hq : Q 128 = 1 - P 128 := by rw [T.side, V5 hd]
 exact ⟨oO T hP hd, gI T hz hR, by rw [hq]; exact ot T hd, hq, hd⟩
set_option maxRecDepth 100000
def yg (i : Nat) : Int := if i = 130 then -1 else if i = 132 then 1 else 0
def startF (i : Nat) : Int :=
 if i < 16 then (if i % 2 = 0 then ([4, 2, 3, 5, 6, 3, 2, 4] : List Int).getD (i / 2) 0 else 0)
 else if i < 32 then (if i % 2 = 0 then 1 else 0)
 else if i < 96 then 0
 else if i < 112 then 1
 else if i < 128 then (if i % 2 = 0 then ([4, 2, 3, 5, 6, 3, 2, 4] : List Int).getD ((i - 112) / 2) 0 else 1)
 else if i = 128 then 0 else if i = 129 then 15 else if i = 130 then -1 else if i = 131 then 0 else if i = 132 then 1 else 0
theorem tg (i : Nat) (h : 133 ≤ i) : yg i = 0 := by
 unfold yg
 rw [if_neg (by omega), if_neg (by omega)]
theorem ovA_is {P Q R : Nat → Int} {m : Nat} (h : ∀ i, i < m → Q i = R i) (h2 : ∀ i, m ≤ i → P i = R i) : ovA P 0 m Q = R := by
 funext i
 by_cases hi : i < m
 ·rw [XR (by omega)]; exact h i hi
 ·rw [WA (by omega)]; exact h2 i (by omega)
theorem vx  : WR AM 18 [] [] (fun v _ _ => v = .agg 133 (ia yg)) := by
 refine YI (a := a18) rfl rfl (YH _) (ZP rfl) (m := 0) rfl (Zd (Yx (Ze (YA rfl (.one rfl (.one rfl .nil)) (Yy rfl rfl rfl rfl .here (Yb (Yh (⟨_, X5 rfl rfl ZL (YS), ?_⟩))))))))
 refine congrArg (fun P => V.agg 133 (ia P)) ?_
 refine ovA_is (by decide +kernel) fun i hi => (tg i hi).symm
set_option maxRecDepth 100000
def bareP (w b q : Int) : Nat → Int := ov (ovA (ovA (ovA (ovA (fun _ => 0) 0 133 yg) (0 + q.toNat * 2) 2 (ov (fun _ => 0) 0 5)) (0 + w.toNat * 2) 2 (ov (fun _ => 0) 0 6)) (0 + b.toNat * 2) 2 (ov (ov (fun _ => 0) 0 6) 1 1)) 128 1
def JK (w b q : Int) : Nat → Int := ovA (fun _ => 0) 0 133 (bareP w b q)
theorem ovA_z {P Q : Nat → Int} {o n : Nat} (h : ∀ i, 133 ≤ i → P i = 0) (hb : o + n ≤ 133) : ∀ i, 133 ≤ i → ovA P o n Q i = 0 := fun i hi => by rw [WA (by omega)]; exact h i hi
theorem Db (w b q : Int) : ∀ i, 133 ≤ i → JK w b q i = 0 := ovA_z (fun _ _ => rfl) (by omega)
theorem end1 : (ofN (JK 45 62 54) (WT (JK 45 62 54)).length) = (1, 1) := by
 rw [Em (Db _ _ _)]
 decide +kernel
theorem end2 : (ofN (JK 45 63 53) (WT (JK 45 63 53)).length) = (3, 2) := by
 rw [Em (Db _ _ _)]
 decide +kernel
theorem q9 (w b q : Int) (hw : 0 ≤ w ∧ w < 64) (hb : 0 ≤ b ∧ b < 64) (hq : 0 ≤ q ∧ q < 64) : WR AM 16 [.s (.int .i64 w), .s (.int .i64 b), .s (.int .i64 q)] [] (fun v _ _ => v = .agg 133 (ia (JK w b q))) := by
 refine YI (a := a16) rfl rfl (YH _) (ZP rfl) (m := 0) rfl (Zd (Yx (Ze (Ys rfl (YF vx) rfl rfl rfl (Yx (Yy rfl rfl rfl rfl .here (Ze (Zi rfl (YA rfl (.one rfl .nil) (Zx rfl (Zv rfl rfl rfl (Yy rfl rfl rfl rfl .here (Ze (Zi rfl (YA rfl (.one rfl .nil) (Zx rfl (Zv rfl rfl rfl (Yy rfl rfl rfl rfl .here (Ze (Zi rfl (YA rfl (.one rfl (.one rfl .nil)) (Zx rfl (Zv rfl rfl rfl (Yy rfl rfl rfl rfl .here (Ze (Yc (o' := 128) rfl rfl rfl (Yz rfl rfl rfl rfl .here (Ze (Yn rfl rfl ZL ?_)))))))))))))))))))))))))))))
 refine Yy rfl rfl rfl rfl (.there .here) (Yb (Yh (⟨_, X5 rfl rfl ZM (YS), ?_⟩)))
 rfl
theorem qd  : WR AM 15 [] [] (fun v _ _ => v = .s (.bool true)) := by
 have hend1 := YF (yO (JK 45 62 54) (Db _ _ _))
 rw [end1] at hend1
 have hend2 := YF (yO (JK 45 63 53) (Db _ _ _))
 rw [end2] at hend2
 refine YI (a := a15) rfl rfl (YH _) (ZP rfl) (m := 0) rfl (Zd (Yp rfl (Ze (Ys rfl (YF (q9 45 62 54 (by omega) (by omega) (by omega))) rfl rfl rfl (Ys rfl (hend1) rfl rfl rfl (Zn rfl (YC (v := .s (.int _ _)) rfl rfl (YC (v := .s (.int _ _)) rfl rfl (Zi rfl (Zi rfl (Ze (Ys rfl (YF (q9 45 63 53 (by omega) (by omega) (by omega))) rfl rfl rfl (Ys rfl (hend2) rfl rfl rfl (Zn rfl (YC (v := .s (.int _ _)) rfl rfl (YC (v := .s (.int _ _)) rfl rfl (Zi rfl (Zi rfl (Ze (Zi rfl (Yq rfl rfl (Ui rfl) (Zj rfl (Ya rfl (Zi rfl (Ya rfl (Yq rfl rfl (Ui rfl) (Zo rfl (Zj rfl (Ya rfl ?_)))))))))))))))))))))))))))))
 refine Zi rfl (Ya rfl (Yq rfl rfl (Ui rfl) (Zo rfl (Zj rfl (Ya rfl (Zi rfl (Ya rfl (Yq rfl rfl (Ui rfl) (Zo rfl (Zj rfl (Zf rfl ?_)))))))))))
 rfl
theorem oX (P : Nat → Int) (hz : ∀ i, 133 ≤ i → P i = 0) (hp : XG P = false) : WR AM 5 [.agg 133 (ia P)] [] (fun v _ _ => v = .s (.bool true)) := by
 have hof := YF (yO P hz)
 have hpos := YF (Qg P)
 rw [hp] at hpos
 rw [yB (.inl hp)] at hof
 refine YI (a := a5) rfl rfl (YH _) (ZP rfl) (m := 0) rfl (Zd (YB rfl (Yp rfl (Yb (Yd (Zd (Ys rfl (YF qd) rfl rfl rfl (Yu (r := .bool _) rfl rfl (Yb (ZA rfl (Yg (Zd (Yn rfl rfl ZL (Ys rfl (hof) rfl rfl rfl (Zn rfl (YC (v := .s (.int _ _)) rfl rfl (YC (v := .s (.int _ _)) rfl rfl (Zi rfl (Zi rfl (Ze (Yn rfl rfl ZL (Ys rfl (hpos) rfl rfl rfl (Zj rfl (ZD rfl (Zo rfl (Zj rfl (Yb (Yd (Zd ?_)))))))))))))))))))))))))))))
 refine Zj rfl (Zi rfl (Yq rfl rfl (pR rfl) (pK rfl rfl (rfl) (Zj rfl (Ya rfl (Zj rfl (Ya rfl (Zi rfl (Ya rfl (Yq rfl rfl (pR rfl) (Ya rfl (pK rfl rfl (rfl) (Zo rfl (Zj rfl (Ya rfl (Zi rfl (Ya rfl (Yq rfl rfl (kq (by decide)) (Ya rfl (Zj rfl (Ya rfl (Zj rfl (ZD rfl (Ya rfl (Zo rfl (Ya rfl (pK rfl rfl (rfl) (Zo rfl (Zj rfl ?_)))))))))))))))))))))))))))))
 refine Ya rfl (Zi rfl (Ya rfl (Yq rfl rfl (kq (by decide)) (Ya rfl (Zi rfl (Ya rfl (Yq rfl rfl (kq (by decide)) (Ya rfl (pK rfl rfl (rfl) (Zo rfl (Yb (ZA rfl (Yg (Yd (Zd (Zi rfl (Yq rfl rfl (kq (by decide)) (Zj rfl (ZD rfl (ZC rfl (Zo rfl (Zj rfl (Ya rfl (Zi rfl (Ya rfl (Yq rfl rfl (pR rfl) (Ya rfl (Zj rfl (ZC rfl ?_)))))))))))))))))))))))))))))
 refine Ya rfl (Zo rfl (Ya rfl (Zj rfl (ZC rfl (Ya rfl (Zo rfl (Zo rfl (Yb (ZA rfl (Yg (Yd (Zd (Yn rfl rfl ZL (Ys rfl (YF (sK P)) rfl rfl rfl (Yu (r := .bool _) rfl rfl (Yb (Yi rfl (fun h1 => ?_) (fun h1 => ?_)))))))))))))))))) <;> simp only [NM] at h1
 ·refine Zd (Yp rfl (Zf rfl ?_))
  rfl
 ·refine Yg (Zd ?_)
  have hR : Vq P = true := by assumption
  obtain ⟨Q, T, hQ⟩ := pY P
  obtain ⟨e1, e2, e3, e4, e5⟩ := p7 T hz hR
  have hofQ := YF (yO Q T.out)
  rw [yB (.inl (by rw [e1]; exact hp))] at hofQ
  refine Yn rfl rfl ZL (Ys rfl (hQ) rfl rfl rfl (Ys rfl (hofQ) rfl rfl rfl (Zn rfl (YC (v := .s (.int _ _)) rfl rfl (YC (v := .s (.int _ _)) rfl rfl (Zi rfl (Zi rfl (Yb (Yd (Zd (Zi rfl (Yq rfl rfl (kq (by decide)) (Zj rfl (Ya rfl (Zi rfl (Ya rfl (Yq rfl rfl (kq (by decide)) (Zo rfl (Yb (ZA rfl (Yg (Zd (Zi rfl (Zi rfl (Yq rfl rfl (Ui rfl) (Zj rfl (Ya rfl (Zi rfl (Ya rfl ?_)))))))))))))))))))))))))))))
  refine Zi rfl (Ya rfl (Yq rfl rfl (Ui rfl) (Zo rfl (Zj rfl (Zf rfl ?_)))))
  rfl
theorem o7 (P : Nat → Int) (hz : ∀ i, 133 ≤ i → P i = 0) (hp : XG P = true) (hl : 0 < (WT P).length) : WR AM 5 [.agg 133 (ia P)] [] (fun v _ _ => v = .s (.bool true)) := by
 have hof := YF (yO P hz)
 have hpos := YF (Qg P)
 rw [hp] at hpos
 rw [yB (.inr hl)] at hof
 have hR := us hp
 have hright := YF (sK P)
 rw [hR] at hright
 refine YI (a := a5) rfl rfl (YH _) (ZP rfl) (m := 0) rfl (Zd (YB rfl (Yp rfl (Yb (Yd (Zd (Ys rfl (YF qd) rfl rfl rfl (Yu (r := .bool _) rfl rfl (Yb (ZA rfl (Yg (Zd (Yn rfl rfl ZL (Ys rfl (hof) rfl rfl rfl (Zn rfl (YC (v := .s (.int _ _)) rfl rfl (YC (v := .s (.int _ _)) rfl rfl (Zi rfl (Zi rfl (Ze (Yn rfl rfl ZL (Ys rfl (hpos) rfl rfl rfl (Zj rfl (Ya rfl (Yn rfl rfl ZL (Ya rfl (YD rfl (pp P) rfl rfl (fun v1 own1 n1 hr1 => Ya rfl (Vn rfl hr1.rx (by decide) (Xm _) ?_)))))))))))))))))))))))))))))
 refine Ya rfl (Yq rfl rfl (kq (by omega)) (Zo rfl (Zj rfl (Yb (Yd (Zd (Zj rfl (Zi rfl (Yq rfl rfl (pR rfl) (pK rfl rfl (rfl) (Zj rfl (Ya rfl (Zj rfl (Ya rfl (Zi rfl (Ya rfl (Yq rfl rfl (pR rfl) (Ya rfl (pK rfl rfl (rfl) (Zo rfl (Zj rfl (Ya rfl (Zi rfl (Ya rfl (Yq rfl rfl (kq (by decide)) (Ya rfl (Zj rfl (Ya rfl (Zj rfl ?_)))))))))))))))))))))))))))))
 refine ZD rfl (Ya rfl (Zo rfl (Ya rfl (pK rfl rfl (rfl) (Zo rfl (Zj rfl (Ya rfl (Zi rfl (Ya rfl (Yq rfl rfl (kq (by decide)) (Ya rfl (Zi rfl (Ya rfl (Yq rfl rfl (kq (by decide)) (Ya rfl (pK rfl rfl (rfl) (Zo rfl (Yb (ZA rfl (Yg (Yd (Zd (Zi rfl (Yq rfl rfl (kq (by decide)) (Zj rfl (ZD rfl (ZC rfl (Zo rfl (Zj rfl ?_)))))))))))))))))))))))))))))
 refine Ya rfl (Zi rfl (Ya rfl (Yq rfl rfl (pR rfl) (Ya rfl (Zj rfl (ZC rfl (Ya rfl (Zo rfl (Ya rfl (Zj rfl (ZC rfl (Ya rfl (Zo rfl (Zo rfl (Yb (ZA rfl (Yg (Yd (Zd (Yn rfl rfl (List.mem_append_right _ ZL) (Ys rfl (hright) rfl rfl rfl (Yu (r := .bool _) rfl rfl (Yb (ZA rfl (Yg (Zd ?_))))))))))))))))))))))))))
 obtain ⟨Q, T, hQ⟩ := pY P
 obtain ⟨e1, e2, e3, e4, e5⟩ := p7 T hz hR
 have hofQ := YF (yO Q T.out)
 rw [yB (.inr (e2.2 hl))] at hofQ
 refine Yn rfl rfl (List.mem_append_right _ ZL) (Ys rfl (hQ) rfl rfl rfl (Ys rfl (hofQ) rfl rfl rfl (Zn rfl (YC (v := .s (.int _ _)) rfl rfl (YC (v := .s (.int _ _)) rfl rfl (Zi rfl (Zi rfl (Yb (Yd (Zd (Zi rfl (Yq rfl rfl (kq (by decide)) (Zj rfl (Ya rfl (Zi rfl (Ya rfl (Yq rfl rfl (kq (by decide)) (Zo rfl (Yb (ZA rfl (Yg (Zd (Zi rfl (Zi rfl (Yq rfl rfl (Ui rfl) (Zj rfl (Ya rfl (Zi rfl (Ya rfl ?_)))))))))))))))))))))))))))))
 refine Zi rfl (Ya rfl (Yq rfl rfl (Ui rfl) (Zo rfl (Zj rfl (Zf rfl ?_)))))
 rfl
theorem oY (P : Nat → Int) (hz : ∀ i, 133 ≤ i → P i = 0) (hp : XG P = true) (hl : ¬ 0 < (WT P).length) (hk : Xu P (P 128) = true) (hd : P 128 = 0) : WR AM 5 [.agg 133 (ia P)] [] (fun v _ _ => v = .s (.bool true)) := by
 have hof := YF (yO P hz)
 have hpos := YF (Qg P)
 rw [hp] at hpos
 rw [kI hp hl hk, show wE (Y0 (P 128)) = 2 by rw [hd]; rfl] at hof
 have hchk := EM P (P 128)
 rw [hk] at hchk
 have hR := us hp
 have hright := YF (sK P)
 rw [hR] at hright
 refine YI (a := a5) rfl rfl (YH _) (ZP rfl) (m := 0) rfl (Zd (YB rfl (Yp rfl (Yb (Yd (Zd (Ys rfl (YF qd) rfl rfl rfl (Yu (r := .bool _) rfl rfl (Yb (ZA rfl (Yg (Zd (Yn rfl rfl ZL (Ys rfl (hof) rfl rfl rfl (Zn rfl (YC (v := .s (.int _ _)) rfl rfl (YC (v := .s (.int _ _)) rfl rfl (Zi rfl (Zi rfl (Ze (Yn rfl rfl ZL (Ys rfl (hpos) rfl rfl rfl (Zj rfl (Ya rfl (Yn rfl rfl ZL (Ya rfl (YD rfl (pp P) rfl rfl (fun v1 own1 n1 hr1 => Ya rfl (Vn rfl hr1.rx (by decide) (Xm _) ?_)))))))))))))))))))))))))))))
 refine Ya rfl (Yq rfl rfl (Ui (by omega)) (Zo rfl (Zj rfl (Yb (Yd (Zd (Zj rfl (Zi rfl (Yq rfl rfl (pO (by decide)) (pK rfl rfl (rfl) (Zj rfl (Ya rfl (Zj rfl (Ya rfl (Zi rfl (Ya rfl (Yq rfl rfl (pO (by decide)) (Ya rfl (pK rfl rfl (rfl) (Zo rfl (Zj rfl (Ya rfl (Zi rfl (Ya rfl (Yq rfl rfl (Ui rfl) (Ya rfl (Zj rfl (Ya rfl (Zj rfl ?_)))))))))))))))))))))))))))))
 refine Ya rfl (Yn rfl rfl (List.mem_append_right _ ZL) (Ya rfl (Yc (o' := 128) rfl rfl rfl (Ya rfl (Yl (x := P 128) rfl rfl (List.mem_append_right _ ZL) (rfl) (Ya rfl (Ys rfl (hchk) rfl rfl rfl (Ya rfl (Zo rfl (Ya rfl (pK rfl rfl (rfl) (Zo rfl (Zj rfl (Ya rfl (Zi rfl (Ya rfl (Yq rfl rfl (kq (by decide)) (Ya rfl (Zi rfl (Ya rfl (Yq rfl rfl (kq (by decide)) (Ya rfl (pK rfl rfl (rfl) (Zo rfl (Yb (ZA rfl (Yg (Yd (Zd ?_)))))))))))))))))))))))))))))
 refine Zi rfl (Yq rfl rfl (Ui rfl) (Zj rfl (Ya rfl (Zi rfl (Ya rfl (Yc (o' := 128) rfl rfl rfl (Ya rfl (Yl (x := 0) rfl rfl (List.mem_append_right _ ZL) (hd) (Ya rfl (Ys rfl (YF (VH 0)) rfl rfl rfl (Ya rfl (Ys rfl (YF (wa _)) rfl rfl rfl (Ya rfl (Yq rfl rfl (pR rfl) (Zo rfl (Zj rfl (Ya rfl (Zi rfl (Ya rfl (Yq rfl rfl (pO (by decide)) (Ya rfl (Zj rfl (Ya rfl (Zi rfl (Ya rfl (Yq rfl rfl (pR rfl) (Ya rfl (Zo rfl (Ya rfl ?_)))))))))))))))))))))))))))))
 refine Zj rfl (ZC rfl (Ya rfl (Zo rfl (Zo rfl (Yb (ZA rfl (Yg (Yd (Zd (Yn rfl rfl (List.mem_append_right _ ZL) (Ys rfl (hright) rfl rfl rfl (Yu (r := .bool _) rfl rfl (Yb (ZA rfl (Yg (Zd ?_))))))))))))))))
 obtain ⟨Q, T, hQ⟩ := pY P
 obtain ⟨e1, e2, e3, e4, e5⟩ := p7 T hz hR
 have hofQ := YF (yO Q T.out)
 rw [kI (by rw [e1]; exact hp) (fun h => hl (e2.1 h)) (by rw [e3]; exact hk), show wE (Y0 (Q 128)) = 1 by rw [e4, hd]; rfl] at hofQ
 refine Yn rfl rfl (List.mem_append_right _ ZL) (Ys rfl (hQ) rfl rfl rfl (Ys rfl (hofQ) rfl rfl rfl (Zn rfl (YC (v := .s (.int _ _)) rfl rfl (YC (v := .s (.int _ _)) rfl rfl (Zi rfl (Zi rfl (Yb (Yd (Zd (Zi rfl (Yq rfl rfl (kq (by decide)) (Zj rfl (Ya rfl (Zi rfl (Ya rfl (Yq rfl rfl (Ui rfl) (Zo rfl (Yb (Zz rfl (Zd (Zi rfl (Zi rfl (Yq rfl rfl (Ui rfl) (Zj rfl (Ya rfl (Zi rfl (Ya rfl (Zi rfl ?_)))))))))))))))))))))))))))))
 refine Ya rfl (Zr rfl rfl (Ya rfl (Yq rfl rfl (Ui rfl) (Zo rfl (Zj rfl (Ya rfl (Zi rfl (Ya rfl (Zi rfl (Ya rfl (Yq rfl rfl (pO (by decide)) (Zo rfl (Zj rfl (Zf rfl ?_))))))))))))))
 rfl
theorem o9 (P : Nat → Int) (hz : ∀ i, 133 ≤ i → P i = 0) (hp : XG P = true) (hl : ¬ 0 < (WT P).length) (hk : Xu P (P 128) = true) (hd : P 128 = 1) : WR AM 5 [.agg 133 (ia P)] [] (fun v _ _ => v = .s (.bool true)) := by
 have hof := YF (yO P hz)
 have hpos := YF (Qg P)
 rw [hp] at hpos
 rw [kI hp hl hk, show wE (Y0 (P 128)) = 1 by rw [hd]; rfl] at hof
 have hchk := EM P (P 128)
 rw [hk] at hchk
 have hR := us hp
 have hright := YF (sK P)
 rw [hR] at hright
 refine YI (a := a5) rfl rfl (YH _) (ZP rfl) (m := 0) rfl (Zd (YB rfl (Yp rfl (Yb (Yd (Zd (Ys rfl (YF qd) rfl rfl rfl (Yu (r := .bool _) rfl rfl (Yb (ZA rfl (Yg (Zd (Yn rfl rfl ZL (Ys rfl (hof) rfl rfl rfl (Zn rfl (YC (v := .s (.int _ _)) rfl rfl (YC (v := .s (.int _ _)) rfl rfl (Zi rfl (Zi rfl (Ze (Yn rfl rfl ZL (Ys rfl (hpos) rfl rfl rfl (Zj rfl (Ya rfl (Yn rfl rfl ZL (Ya rfl (YD rfl (pp P) rfl rfl (fun v1 own1 n1 hr1 => Ya rfl (Vn rfl hr1.rx (by decide) (Xm _) ?_)))))))))))))))))))))))))))))
 refine Ya rfl (Yq rfl rfl (Ui (by omega)) (Zo rfl (Zj rfl (Yb (Yd (Zd (Zj rfl (Zi rfl (Yq rfl rfl (pO (by decide)) (pK rfl rfl (rfl) (Zj rfl (Ya rfl (Zj rfl (Ya rfl (Zi rfl (Ya rfl (Yq rfl rfl (pO (by decide)) (Ya rfl (pK rfl rfl (rfl) (Zo rfl (Zj rfl (Ya rfl (Zi rfl (Ya rfl (Yq rfl rfl (Ui rfl) (Ya rfl (Zj rfl (Ya rfl (Zj rfl ?_)))))))))))))))))))))))))))))
 refine Ya rfl (Yn rfl rfl (List.mem_append_right _ ZL) (Ya rfl (Yc (o' := 128) rfl rfl rfl (Ya rfl (Yl (x := P 128) rfl rfl (List.mem_append_right _ ZL) (rfl) (Ya rfl (Ys rfl (hchk) rfl rfl rfl (Ya rfl (Zo rfl (Ya rfl (pK rfl rfl (rfl) (Zo rfl (Zj rfl (Ya rfl (Zi rfl (Ya rfl (Yq rfl rfl (kq (by decide)) (Ya rfl (Zi rfl (Ya rfl (Yq rfl rfl (kq (by decide)) (Ya rfl (pK rfl rfl (rfl) (Zo rfl (Yb (ZA rfl (Yg (Yd (Zd ?_)))))))))))))))))))))))))))))
 refine Zi rfl (Yq rfl rfl (Ui rfl) (Zj rfl (Ya rfl (Zi rfl (Ya rfl (Yc (o' := 128) rfl rfl rfl (Ya rfl (Yl (x := 1) rfl rfl (List.mem_append_right _ ZL) (hd) (Ya rfl (Ys rfl (YF (VH 1)) rfl rfl rfl (Ya rfl (Ys rfl (YF (wa _)) rfl rfl rfl (Ya rfl (Yq rfl rfl (pR rfl) (Zo rfl (Zj rfl (Ya rfl (Zi rfl (Ya rfl (Yq rfl rfl (pO (by decide)) (Ya rfl (Zj rfl (Ya rfl (Zi rfl (Ya rfl (Yq rfl rfl (pR rfl) (Ya rfl (Zo rfl (Ya rfl ?_)))))))))))))))))))))))))))))
 refine Zj rfl (ZC rfl (Ya rfl (Zo rfl (Zo rfl (Yb (ZA rfl (Yg (Yd (Zd (Yn rfl rfl (List.mem_append_right _ ZL) (Ys rfl (hright) rfl rfl rfl (Yu (r := .bool _) rfl rfl (Yb (ZA rfl (Yg (Zd ?_))))))))))))))))
 obtain ⟨Q, T, hQ⟩ := pY P
 obtain ⟨e1, e2, e3, e4, e5⟩ := p7 T hz hR
 have hofQ := YF (yO Q T.out)
 rw [kI (by rw [e1]; exact hp) (fun h => hl (e2.1 h)) (by rw [e3]; exact hk), show wE (Y0 (Q 128)) = 2 by rw [e4, hd]; rfl] at hofQ
 refine Yn rfl rfl (List.mem_append_right _ ZL) (Ys rfl (hQ) rfl rfl rfl (Ys rfl (hofQ) rfl rfl rfl (Zn rfl (YC (v := .s (.int _ _)) rfl rfl (YC (v := .s (.int _ _)) rfl rfl (Zi rfl (Zi rfl (Yb (Yd (Zd (Zi rfl (Yq rfl rfl (Ui rfl) (Zj rfl (ZC rfl (Zo rfl (Yb (Zz rfl (Zd (Zi rfl (Zi rfl (Yq rfl rfl (Ui rfl) (Zj rfl (Ya rfl (Zi rfl (Ya rfl (Zi rfl (Ya rfl (Zr rfl rfl (Ya rfl ?_)))))))))))))))))))))))))))))
 refine Yq rfl rfl (Ui rfl) (Zo rfl (Zj rfl (Ya rfl (Zi rfl (Ya rfl (Zi rfl (Ya rfl (Yq rfl rfl (pO (by decide)) (Zo rfl (Zj rfl (Zf rfl ?_)))))))))))
 rfl
theorem o0 (P : Nat → Int) (hz : ∀ i, 133 ≤ i → P i = 0) (hp : XG P = true) (hl : ¬ 0 < (WT P).length) (hk : Xu P (P 128) = false) : WR AM 5 [.agg 133 (ia P)] [] (fun v _ _ => v = .s (.bool true)) := by
 have hof := YF (yO P hz)
 have hpos := YF (Qg P)
 rw [hp] at hpos
 rw [w6 hp hl hk] at hof
 have hchk := EM P (P 128)
 rw [hk] at hchk
 have hR := us hp
 have hright := YF (sK P)
 rw [hR] at hright
 refine YI (a := a5) rfl rfl (YH _) (ZP rfl) (m := 0) rfl (Zd (YB rfl (Yp rfl (Yb (Yd (Zd (Ys rfl (YF qd) rfl rfl rfl (Yu (r := .bool _) rfl rfl (Yb (ZA rfl (Yg (Zd (Yn rfl rfl ZL (Ys rfl (hof) rfl rfl rfl (Zn rfl (YC (v := .s (.int _ _)) rfl rfl (YC (v := .s (.int _ _)) rfl rfl (Zi rfl (Zi rfl (Ze (Yn rfl rfl ZL (Ys rfl (hpos) rfl rfl rfl (Zj rfl (Ya rfl (Yn rfl rfl ZL (Ya rfl (YD rfl (pp P) rfl rfl (fun v1 own1 n1 hr1 => Ya rfl (Vn rfl hr1.rx (by decide) (Xm _) ?_)))))))))))))))))))))))))))))
 refine Ya rfl (Yq rfl rfl (Ui (by omega)) (Zo rfl (Zj rfl (Yb (Yd (Zd (Zj rfl (Zi rfl (Yq rfl rfl (pO (by decide)) (pK rfl rfl (rfl) (Zj rfl (Ya rfl (Zj rfl (Ya rfl (Zi rfl (Ya rfl (Yq rfl rfl (pO (by decide)) (Ya rfl (pK rfl rfl (rfl) (Zo rfl (Zj rfl (Ya rfl (Zi rfl (Ya rfl (Yq rfl rfl (kq (by decide)) (Ya rfl (Zj rfl (Ya rfl (Zj rfl ?_)))))))))))))))))))))))))))))
 refine Ya rfl (Yn rfl rfl (List.mem_append_right _ ZL) (Ya rfl (Yc (o' := 128) rfl rfl rfl (Ya rfl (Yl (x := P 128) rfl rfl (List.mem_append_right _ ZL) (rfl) (Ya rfl (Ys rfl (hchk) rfl rfl rfl (Ya rfl (Zo rfl (Ya rfl (pK rfl rfl (rfl) (Zo rfl (Zj rfl (Ya rfl (Zi rfl (Ya rfl (Yq rfl rfl (Ui rfl) (Ya rfl (Zi rfl (Ya rfl (Yq rfl rfl (Ui rfl) (Ya rfl (pK rfl rfl (rfl) (Zo rfl (Yb (ZA rfl (Yg (Yd (Zd ?_)))))))))))))))))))))))))))))
 refine Zi rfl (Yq rfl rfl (kq (by decide)) (Zj rfl (ZD rfl (ZC rfl (Zo rfl (Zj rfl (Ya rfl (Zi rfl (Ya rfl (Yq rfl rfl (pO (by decide)) (Ya rfl (Zj rfl (Ya rfl (Zi rfl (Ya rfl (Yq rfl rfl (pO (by decide)) (Ya rfl (Zo rfl (Ya rfl (Zj rfl (Ya rfl (Zi rfl (Ya rfl (Yq rfl rfl (pR rfl) (Ya rfl (Zo rfl (Zo rfl (Yb (ZA rfl ?_)))))))))))))))))))))))))))))
 refine Yg (Yd (Zd (Yn rfl rfl (List.mem_append_right _ ZL) (Ys rfl (hright) rfl rfl rfl (Yu (r := .bool _) rfl rfl (Yb (ZA rfl (Yg (Zd ?_)))))))))
 obtain ⟨Q, T, hQ⟩ := pY P
 obtain ⟨e1, e2, e3, e4, e5⟩ := p7 T hz hR
 have hofQ := YF (yO Q T.out)
 rw [w6 (by rw [e1]; exact hp) (fun h => hl (e2.1 h)) (by rw [e3]; exact hk)] at hofQ
 refine Yn rfl rfl (List.mem_append_right _ ZL) (Ys rfl (hQ) rfl rfl rfl (Ys rfl (hofQ) rfl rfl rfl (Zn rfl (YC (v := .s (.int _ _)) rfl rfl (YC (v := .s (.int _ _)) rfl rfl (Zi rfl (Zi rfl (Yb (Yd (Zd (Zi rfl (Yq rfl rfl (kq (by decide)) (Zj rfl (Ya rfl (Zi rfl (Ya rfl (Yq rfl rfl (kq (by decide)) (Zo rfl (Yb (ZA rfl (Yg (Zd (Zi rfl (Zi rfl (Yq rfl rfl (Ui rfl) (Zj rfl (Ya rfl (Zi rfl (Ya rfl ?_)))))))))))))))))))))))))))))
 refine Zi rfl (Ya rfl (Yq rfl rfl (Ui rfl) (Zo rfl (Zj rfl (Zf rfl ?_)))))
 rfl
theorem oN (P : Nat → Int) (hz : ∀ i, 133 ≤ i → P i = 0) : WR AM 5 [.agg 133 (ia P)] [] (fun v _ _ => v = .s (.bool true)) := by
 cases hp : XG P with
 | false => exact oX P hz hp
 | true =>
  by_cases hl : 0 < (WT P).length
  ·exact o7 P hz hp hl
  ·cases hk : Xu P (P 128) with
   | false => exact o0 P hz hp hl hk
   | true =>
    rcases (t7 (us hp)).2 with hd | hd
    ·exact oY P hz hp hl hk hd
    ·exact o9 P hz hp hl hk hd
end Go.Proofs.YtlkighkfkdpncaaGreat
