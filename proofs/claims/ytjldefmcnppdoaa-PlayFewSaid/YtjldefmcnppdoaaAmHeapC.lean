/- The abstract machine's operations on memory: texts out of bytes, maps, stores, appends. -/
import Derived.Test.YtjldefmcnppdoaaAmHeapB
namespace Go.Am
open Go

theorem foldl_push : ∀ (ns : List Int) (r : ByteArray), ns.foldl (fun r n => r.push (UInt8.ofNat n.toNat)) r = ⟨(r.data.toList ++ ns.map fun n => UInt8.ofNat n.toNat).toArray⟩
  | [], r => by obtain ⟨d⟩ := r; simp
  | n :: ns, r => by
    rw [List.foldl_cons, foldl_push ns]
    obtain ⟨d⟩ := r
    simp [ByteArray.push]

theorem quiet_b2s {P : Program} {run : Runner} {s d el : TypeId} {x : Operand} {x' : O} (hs : P.underlying s = some (.slice el)) (hd : P.underlying d = some .string) (he : P.underlying el = some (.int .u8)) (hx : opd x = some x') : QuietOK P run (.convert s d x) (.b2s x') := by
  intro ι σ W e a z σ' o ho hE hR hv hnone
  have rx := opd_R hx hE
  have hrun : ∀ ad n c, a.eval x = .slice ad n c → (execOp a.eval o).run P W = ((Conv.bytesToString (.slice ad n c)).run P W).andThen fun v w => .ok (.value v) w := by
    intro ad n c h
    simp [execOp, ho, h, convert, run_underlying hs W, run_underlying hd W, run_underlying he W]
  simp only [heapV] at hv
  split at hv
  · rename_i b off n z' m hb
    rw [hb] at rx
    simp only [VR] at rx
    obtain ⟨p, c, hp, hl, rx, _⟩ := rx
    split at hv
    · rename_i m' n' g hblk
      split at hv
      · rename_i hz
        subst hz
        cases hall : allB n fun i => isByte (g (off + i))
        · simp [hall] at hv
        · simp only [hall, cond_true, Option.some.injEq, Prod.mk.injEq] at hv
          obtain ⟨rfl, rfl⟩ := hv
          have hcell := rd_sc hR hp hblk (o := off) (k := n) (by omega)
          have hld := run_loadCells (P := P) W ⟨p.c, p.base + off, none⟩ n (fun j => (g (off + j)).val) hcell
          let ns : List Int := (List.range n).map fun j => match g (off + j) with
            | .int _ q => q
            | _ => 0
          have hmap : (List.range n).map (fun j => (g (off + j)).val) = ns.map (Value.int .u8) := by
            simp only [ns, List.map_map]
            apply List.map_congr_left
            intro j hj
            have := allB_iff.1 hall j (List.mem_range.1 hj)
            unfold isByte at this
            split at this
            · rename_i q hq; simp [hq, S.val]
            · simp at this
          rw [hmap] at hld
          refine ⟨_, W, ι, rfl, QPost.refl hR, ?_⟩
          rw [hrun _ _ _ rx, run_bytesToString (P := P) W _ n c ns hld]
          simp only [Result.andThen_ok, S.val]
          congr 3
          rw [foldl_push]
          have he : ByteArray.empty.data.toList = [] := rfl
          rw [he, List.nil_append]
          congr 2
          simp only [ns, List.map_map]
          apply List.map_congr_left
          intro j hj
          have := allB_iff.1 hall j (List.mem_range.1 hj)
          unfold isByte at this
          split at this
          · rename_i q hq; simp [hq, byteOf]
          · simp at this
      · simp at hv
    · simp at hv
  · rename_i hb
    rw [hb] at rx
    simp only [VR] at rx
    injection hv with hv
    injection hv with h1 h2
    subst h1; subst h2
    refine ⟨_, W, ι, rfl, QPost.refl hR, ?_⟩
    rw [hrun _ _ _ rx]
    simp [Conv.bytesToString, S.val, ByteArray.empty, ByteArray.emptyWithCapacity]
    rfl
  · simp at hv

/-! ### Maps -/

theorem zv_R {ι : Inj} {v : Value} {z : Z} (h : zeroZ v = some z) : VR ι z.v v := by
  have hs := zeroZ_size h
  have hsc := fun g hg => zeroZ_sc (g := g) h hg
  have hvc := zeroZ_vc (ι := ι) h
  have hagg : (∃ cs, v = .agg cs) ∨ ∃ x, z = .one x ∧ constV v = some x := by
    unfold zeroZ at h
    split at h
    · exact .inl ⟨_, rfl⟩
    · simp only [Option.map_eq_some_iff] at h
      obtain ⟨x, hx, rfl⟩ := h
      exact .inr ⟨x, rfl, hx⟩
  rcases hagg with ⟨cs, rfl⟩ | ⟨x, rfl, hx⟩
  · cases z with
    | ints n => exact ⟨cs, rfl, hs.symm, hsc _ rfl⟩
    | scl l => exact ⟨cs, rfl, hs.symm, hsc _ rfl⟩
    | vl l => exact ⟨cs.toList, by simp, hvc⟩
    | one x =>
      exfalso
      unfold zeroZ at h
      simp only at h
      split at h
      · simp at h
      · split at h
        · split at h <;> simp at h
        · simp at h
  · exact constV_R hx ι

theorem sameNow_fits {k0 : IntKind} {j k : S} (h : j.fits k = true) : Instr.sameNow (.int k0) k.val j.val = some (j.eqB k) := by
  obtain ⟨kk, x, y, rfl, rfl⟩ := fits_int h
  simp only [S.val, Instr.sameNow, if_true, S.eqB, Option.some.injEq]
  rw [Bool.eq_iff_iff]
  simp only [beq_iff_eq, decide_eq_true_eq]
  exact ⟨Eq.symm, Eq.symm⟩

theorem findNow_R {ι : Inj} {k0 : IntKind} {j : S} : ∀ {l : List (S × V)} {es : List MapEntry} (i : Nat), (l.all fun p => p.1.fits j) = true → MR ι l es →
    match mfind j l with
    | some v => ∃ q u, Instr.findNow (.int k0) j.val es i = some (some (i + q, u)) ∧ VR ι v u
    | none => Instr.findNow (.int k0) j.val es i = some none
  | [], es, i, _, hm => by simp only [MR] at hm; subst hm; simp [mfind, Instr.findNow]
  | (k, v) :: l, es, i, hf, hm => by
    simp only [MR] at hm
    obtain ⟨e, r, rfl, hk, hv, hr⟩ := hm
    simp only [List.all_cons, Bool.and_eq_true] at hf
    have hsame := sameNow_fits (k0 := k0) hf.1
    rw [← hk] at hsame
    simp only [mfind, Instr.findNow, hsame]
    cases hq : k.eqB j
    · have ih := findNow_R (k0 := k0) (i + 1) hf.2 hr
      simp only [cond_false]
      cases hm : mfind j l with
      | none => rw [hm] at ih; exact ih
      | some u =>
        rw [hm] at ih
        obtain ⟨q, u', h1, h2⟩ := ih
        exact ⟨q + 1, u', by rw [h1]; congr 3; omega, h2⟩
    · simp only [cond_true]
      exact ⟨0, _, rfl, hv⟩

theorem run_checkKey {P : Program} {t : TypeId} {k : IntKind} (ht : P.underlying t = some (.int k)) (b : Bool) (d : Nat) (v : Value) (W : World) : (Instr.checkKey b (d + 1) t v).run P W = .ok () W := by
  rw [Instr.checkKey, Sem.run_bind, run_underlying ht W, Result.andThen_ok]
  cases v <;> rfl

theorem scalarT_int {P : Program} {t : TypeId} (h : scalarT P t = true) : ∃ k, P.underlying t = some (.int k) := by
  unfold scalarT at h
  split at h
  · rename_i k hk; exact ⟨k, hk⟩
  · simp at h

theorem run_getMap {P : Program} {W : World} {r : Nat} {es : Array MapEntry} {ck : Nat} (h : W.heap[r]? = some (.map es ck)) : (getObj r).run P W = .ok (.map es ck) W := by
  simp [getObj, Sem.run, h]

theorem quiet_mget {P : Program} {run : Runner} {t kt et : TypeId} {z : Z} {ok : Bool} {m k : Operand} {m' k' : O} (ht : P.underlying t = some (.map kt et)) (hk : scalarT P kt = true) (hz : zeroT P et = some z) (hm : opd m = some m') (hkk : opd k = some k') :
    QuietOK P run (.lookup t m k ok) (.mget z ok m' k') := by
  intro ι σ W e a x σ' o ho hE hR hv hnone
  have rm := opd_R hm hE
  have rk := opd_R hkk hE
  obtain ⟨k0, hk0⟩ := scalarT_int hk
  obtain ⟨zv, hzv, hzrun⟩ := run_zeroValue hz
  simp only [heapV] at hv
  split at hv
  · rename_i b j hmv hkv
    rw [hmv] at rm
    rw [hkv] at rk
    simp only [VR] at rm rk
    obtain ⟨p, hp, rm⟩ := rm
    split at hv
    · rename_i md l hblk
      obtain ⟨es, ck, hes, hMR, _⟩ := hR.blk b p _ hp hblk
      cases hall : l.all fun p => p.1.fits j
      · simp [hall] at hv
      · simp only [hall, cond_true] at hv
        have hf := findNow_R (k0 := k0) 0 hall hMR
        have hck := run_checkKey (P := P) hk0 es.isEmpty 9999 j.val W
        split at hv
        · rename_i v hmf
          rw [hmf] at hf
          obtain ⟨q, u, h1, h2⟩ := hf
          injection hv with hv
          injection hv with e1 e2
          subst e1; subst e2
          cases ok
          · refine ⟨u, W, ι, h2, QPost.refl hR, ?_⟩
            simp [execOp, ho, Instr.lookup, run_underlying ht W, rm, rk, run_getMap hes, hck, Instr.findKey, run_underlying hk0 W, h1]
          · refine ⟨.tuple #[u, .bool true], W, ι, ⟨[u, .bool true], rfl, by simp only [VRL]; exact ⟨u, _, rfl, h2, _, [], rfl, rfl, rfl⟩⟩, QPost.refl hR, ?_⟩
            simp [execOp, ho, Instr.lookup, run_underlying ht W, rm, rk, run_getMap hes, hck, Instr.findKey, run_underlying hk0 W, h1]
        · rename_i hmf
          rw [hmf] at hf
          injection hv with hv
          injection hv with e1 e2
          subst e1; subst e2
          cases ok
          · refine ⟨zv, W, ι, zv_R hzv, QPost.refl hR, ?_⟩
            simp [execOp, ho, Instr.lookup, run_underlying ht W, rm, rk, run_getMap hes, hck, Instr.findKey, run_underlying hk0 W, hf, hzrun W]
          · refine ⟨.tuple #[zv, .bool false], W, ι, ⟨[zv, .bool false], rfl, by simp only [VRL]; exact ⟨zv, _, rfl, zv_R hzv, _, [], rfl, rfl, rfl⟩⟩, QPost.refl hR, ?_⟩
            simp [execOp, ho, Instr.lookup, run_underlying ht W, rm, rk, run_getMap hes, hck, Instr.findKey, run_underlying hk0 W, hf, hzrun W]
    · simp at hv
  · simp at hv

end Go.Am
