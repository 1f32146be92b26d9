/- Part of the proof: RefA. -/
import Derived.Test.YtmcgmfjmjpbgaaaDoorNistA
set_option linter.unusedVariables false
set_option maxRecDepth 100000
namespace Go.Am.Sl
open Go.Am Go.Proofs
/- A FUNCTION TOLD BY ITS OWN RUN: for what holds no symbol -/
def openC : List Cond → List Cond
  | [] => []
  | c :: cs => bif c.chk then openC cs else c :: openC cs
theorem openC_ok : ∀ {cs : List Cond}, All (openC cs) → All cs
  | [], _ => trivial
  | c :: cs, h => by
    simp only [openC] at h
    cases hc : c.chk with
    | true =>
      simp only [hc, cond_true] at h
      exact ⟨Cond.chk_holds c hc, openC_ok h⟩
    | false =>
      simp only [hc, cond_false] at h
      exact ⟨h.1, openC_ok h.2⟩
def runS (E : Env) (fn : Func) : Spec := fun args H =>
  match runF E noO [] 400 fn [] args H with
  | some (v, H1, c) => match tidyL H.length [v] H1 with
    | some ([r], H2) => some (r, H2, openC c)
    | _ => none
  | none => none
theorem runS_ok {g : Nat} {l : List (FuncId × Spec)} (hE : EnvOk (env l) g) {f : FuncId} {fn : Func} (hf : P.funcs[f]? = some fn) (hn : (fn.name == "runtime.NumGoroutine") = false) (hb : fn.body = some (bodyOf fn)) : Ok g f (runS (env l) fn) := by
  intro args H r H' c h hc L w hs hg hok
  unfold runS at h
  split at h
  case h_2 => cases h
  rename_i v H1 c1 hr
  split at h
  case h_2 => cases h
  rename_i r2 H2 h3
  simp only [Option.some.injEq, Prod.mk.injEq] at h
  obtain ⟨rfl, rfl, rfl⟩ := h
  refine (runF_ok hE hf hn hb (blocksOk_nil _) hr (openC_ok hc) hs hg hok).mono ?_
  rintro e w' ⟨L', rfl, k, hv⟩
  obtain ⟨L2, k2, q1, q2, q3⟩ := Base.tidy (b := ⟨L, H, w⟩) k (vs := [v]) ⟨hv, trivial⟩ h3
  obtain ⟨u, hu, _, hc⟩ := q3 0 r2 rfl
  simp only [List.getElem?_cons_zero, Option.some.injEq] at hu
  subst hu
  exact ⟨L2, by rw [hc], k2, q1.1⟩
noncomputable def m1 : List (FuncId × Spec) := [(177, runS (env []) Tryd.f177), (178, runS (env []) Tryd.f178), (99, runS (env []) Tryd.f99), (162, runS (env []) Tryd.f162)]
theorem m1_ok (g : Nat) : EnvOk (env m1) g :=
  env_cons (runS_ok (env_nil g) Tryd.func177 (by kernel_rfl) (by kernel_rfl)) (env_cons (runS_ok (env_nil g) Tryd.func178 (by kernel_rfl) (by kernel_rfl)) (env_cons (runS_ok (env_nil g) Tryd.func99 (by kernel_rfl) (by kernel_rfl)) (env_cons (runS_ok (env_nil g) Tryd.func162 (by kernel_rfl) (by kernel_rfl)) (env_nil g))))
noncomputable def m2 : List (FuncId × Spec) := [(100, runS (env m1) Tryd.f100), (98, runS (env m1) Tryd.f98), (102, runS (env m1) Tryd.f102)] ++ m1
theorem m2_ok (g : Nat) : EnvOk (env m2) g :=
  env_cons (runS_ok (m1_ok g) Tryd.func100 (by kernel_rfl) (by kernel_rfl)) (env_cons (runS_ok (m1_ok g) Tryd.func98 (by kernel_rfl) (by kernel_rfl)) (env_cons (runS_ok (m1_ok g) Tryd.func102 (by kernel_rfl) (by kernel_rfl)) (m1_ok g)))
noncomputable def m3 : List (FuncId × Spec) := (101, runS (env m2) Tryd.f101) :: m2
theorem m3_ok (g : Nat) : EnvOk (env m3) g := env_cons (runS_ok (m2_ok g) Tryd.func101 (by kernel_rfl) (by kernel_rfl)) (m2_ok g)
end Go.Am.Sl
namespace Go.Am.Sl
open Go.Am Go.Proofs
/- NUMBERS AS ROWS OF DIGITS: the lowest first -/
def valL : List Int → Nat
  | [] => 0
  | x :: l => x.toNat + 4294967296 * valL l
def isD (xs : List Int) : Prop := ∀ x ∈ xs, 0 ≤ x ∧ x < 4294967296
/-- the digit at a place -/
def dg (v i : Nat) : Nat := v / 4294967296 ^ i % 4294967296
def digs (n v : Nat) : List Int := (List.range n).map fun i => ((dg v i : Nat) : Int)
theorem digs_len (n v : Nat) : (digs n v).length = n := by simp [digs]
theorem dg_lt (v i : Nat) : dg v i < 4294967296 := Nat.mod_lt _ (by decide)
theorem isD_digs (n v : Nat) : isD (digs n v) := by
  intro x hx
  simp only [digs, List.mem_map] at hx
  obtain ⟨i, _, rfl⟩ := hx
  have := dg_lt v i
  omega
theorem digs_succ (n v : Nat) : digs (n + 1) v = ((v % 4294967296 : Nat) : Int) :: digs n (v / 4294967296) := by
  unfold digs
  rw [List.range_succ_eq_map, List.map_cons, List.map_map]
  congr 1
  · simp [dg]
  · apply List.map_congr_left
    intro i _
    show ((dg v (i + 1) : Nat) : Int) = _
    unfold dg
    rw [Nat.pow_succ, Nat.mul_comm, Nat.div_div_eq_div_mul]
theorem valL_digs : ∀ (n v : Nat), valL (digs n v) = v % 4294967296 ^ n
  | 0, v => by simp [digs, valL, Nat.mod_one]
  | n + 1, v => by
    rw [digs_succ, valL, valL_digs n, Nat.pow_succ, Nat.mul_comm (4294967296 ^ n), Nat.mod_mul]
    rfl
theorem valL_lt : ∀ (l : List Int), isD l → valL l < 4294967296 ^ l.length
  | [], _ => by simp [valL]
  | x :: l, h => by
    have h1 := valL_lt l fun y hy => h y (by simp [hy])
    obtain ⟨h2, h3⟩ := h x (by simp)
    simp only [valL, List.length_cons]
    rw [Nat.pow_succ]
    generalize 4294967296 ^ l.length = R at *
    omega
theorem digs_valL : ∀ (l : List Int), isD l → digs l.length (valL l) = l
  | [], _ => rfl
  | x :: l, h => by
    obtain ⟨h2, h3⟩ := h x (by simp)
    have ih := digs_valL l fun y hy => h y (by simp [hy])
    simp only [List.length_cons]
    rw [digs_succ]
    have e1 : valL (x :: l) % 4294967296 = x.toNat := by simp only [valL]; omega
    have e2 : valL (x :: l) / 4294967296 = valL l := by simp only [valL]; omega
    rw [e1, e2, ih]
    congr 1
    omega
theorem digs_get {n v i : Nat} (h : i < n) : (digs n v)[i]? = some ((dg v i : Nat) : Int) := by
  simp only [digs, List.getElem?_map]
  rw [List.getElem?_range h]
  rfl
theorem get_dg {l : List Int} (hl : isD l) {i : Nat} (h : i < l.length) : l.getD i 0 = ((dg (valL l) i : Nat) : Int) := by
  have := digs_get (v := valL l) h
  rw [digs_valL l hl] at this
  rw [List.getD_eq_getElem?_getD, this]
  rfl
theorem dg_out {l : List Int} (hl : isD l) {i : Nat} (h : l.length ≤ i) : dg (valL l) i = 0 := by
  unfold dg
  rw [Nat.div_eq_of_lt (Nat.lt_of_lt_of_le (valL_lt l hl) (Nat.pow_le_pow_right (by decide) h))]
/- DIGIT, LONGER -/
def cut (xs : List Int) (off len : Nat) : List Int := (xs.drop off).take len
theorem cut_len {xs : List Int} {off len : Nat} (h : off + len ≤ xs.length) : (cut xs off len).length = len := by simp [cut]; omega
theorem cut_get {xs : List Int} {off len i : Nat} (hi : i < len) : (cut xs off len).getD i 0 = xs.getD (off + i) 0 := by
  simp only [cut, List.getD_eq_getElem?_getD]
  rw [List.getElem?_take_of_lt hi, List.getElem?_drop]
/-- a row holds a number -/
def isN (xs : List Int) (off len : Nat) : Prop := off + len ≤ xs.length ∧ isD (cut xs off len)
def vl (xs : List Int) (off len : Nat) : Nat := valL (cut xs off len)
def fDigit (vf : List Int → Nat → Nat → Nat) : Spec := fun args H =>
  match args, H with
  | [.bsl 0 p off len, .int .i64 i], [.buf t .u32 xs] => some (.int .u32 (dg (vf xs off len) i.toNat : Nat), [.buf t .u32 xs], [.ile 0 i, .prop (isN xs off len)])
  | _, _ => none
theorem okDigit (g : Nat) : Ok g 177 (fDigit vl) := by
  intro args H r H' c h hc L w hs hg hok
  unfold fDigit at h
  split at h
  case h_2 => cases h
  rename_i p off len i t xs
  simp only [Option.some.injEq, Prod.mk.injEq] at h
  obtain ⟨rfl, rfl, rfl⟩ := h
  obtain ⟨h0, ⟨h1, h2⟩, _⟩ := hc
  have h0 : 0 ≤ i := h0
  obtain ⟨j, rfl⟩ := Int.eq_ofNat_of_zero_le h0
  have ej : ((j : Int)).toNat = j := rfl
  by_cases hj : j < len
  · refine go (env_nil g) ⟨[8], [1, 2, 3]⟩ 90 [true] Tryd.func177 (by kernel_rfl) (by kernel_rfl) (r0 := .int .u32 (xs.getD (off + (j : Int).toNat) 0)) (H0 := [.buf t .u32 xs])
      (cs := [.tt (decide ((j : Int) < (len : Nat)) == true), .ile 0 (j : Int), .ilt (j : Int) (len : Nat), .le (off + len) xs.length, .lt (off + (j : Int).toNat) xs.length]) (by kernel_rfl) (by kernel_rfl) ?_ ?_ rfl hs hg hok
    · refine ⟨?_, h0, ?_, h1, ?_, trivial⟩
      · show (decide ((j : Int) < (len : Nat)) == true) = true
        simp; exact hj
      · show (j : Int) < (len : Nat); omega
      · show off + j < xs.length; omega
    · refine alike_eq ?_
      rw [ej, ← cut_get hj, get_dg h2 (by rw [cut_len h1]; exact hj)]
      rfl
  · refine go (env_nil g) ⟨[8], [1, 2, 3]⟩ 90 [false] Tryd.func177 (by kernel_rfl) (by kernel_rfl) (r0 := .int .u32 0) (H0 := [.buf t .u32 xs])
      (cs := [.tt (decide ((j : Int) < (len : Nat)) == false)]) (by kernel_rfl) (by kernel_rfl) ⟨?_, trivial⟩ ?_ rfl hs hg hok
    · show (decide ((j : Int) < (len : Nat)) == false) = true
      simp; omega
    · refine alike_eq ?_
      rw [ej]
      unfold vl
      rw [dg_out h2 (by rw [cut_len h1]; omega)]
      rfl
def fLonger : Spec := fun args H =>
  match args, H with
  | [.bsl 0 p off len, .bsl 1 p' off' len'], [.buf t .u32 xs, .buf t' .u32 xs'] => some (.int .i64 (Nat.max len len' : Nat), [.buf t .u32 xs, .buf t' .u32 xs'], [])
  | [.bsl 0 p off len, .bsl 0 p' off' len'], [.buf t .u32 xs] => some (.int .i64 (Nat.max len len' : Nat), [.buf t .u32 xs], [])
  | _, _ => none
theorem max_if (a b : Nat) : Nat.max a b = if a > b then a else b := by
  show max a b = _
  split <;> omega
theorem okLonger (g : Nat) : Ok g 178 fLonger := by
  intro args H r H' c h hc L w hs hg hok
  unfold fLonger at h
  split at h
  case h_3 => cases h
  · rename_i p off len p' off' len' t xs t' xs'
    simp only [Option.some.injEq, Prod.mk.injEq] at h
    obtain ⟨rfl, rfl, rfl⟩ := h
    rw [max_if]
    by_cases hl : len > len'
    · rw [if_pos hl]
      refine go (env_nil g) ⟨[9], [1, 2, 3]⟩ 90 [true] Tryd.func178 (by kernel_rfl) (by kernel_rfl) (cs := [.tt (decide ((len : Int) > (len' : Nat)) == true)]) (by kernel_rfl) (by kernel_rfl) ⟨?_, trivial⟩ (Alike.refl _) rfl hs hg hok
      show (decide ((len : Int) > (len' : Nat)) == true) = true
      simp; exact hl
    · rw [if_neg hl]
      refine go (env_nil g) ⟨[9], [1, 2, 3]⟩ 90 [false] Tryd.func178 (by kernel_rfl) (by kernel_rfl) (cs := [.tt (decide ((len : Int) > (len' : Nat)) == false)]) (by kernel_rfl) (by kernel_rfl) ⟨?_, trivial⟩ (Alike.refl _) rfl hs hg hok
      show (decide ((len : Int) > (len' : Nat)) == false) = true
      simp; omega
  · rename_i p off len p' off' len' t xs
    simp only [Option.some.injEq, Prod.mk.injEq] at h
    obtain ⟨rfl, rfl, rfl⟩ := h
    rw [max_if]
    by_cases hl : len > len'
    · rw [if_pos hl]
      refine go (env_nil g) ⟨[9], [1, 2, 3]⟩ 90 [true] Tryd.func178 (by kernel_rfl) (by kernel_rfl) (cs := [.tt (decide ((len : Int) > (len' : Nat)) == true)]) (by kernel_rfl) (by kernel_rfl) ⟨?_, trivial⟩ (Alike.refl _) rfl hs hg hok
      show (decide ((len : Int) > (len' : Nat)) == true) = true
      simp; exact hl
    · rw [if_neg hl]
      refine go (env_nil g) ⟨[9], [1, 2, 3]⟩ 90 [false] Tryd.func178 (by kernel_rfl) (by kernel_rfl) (cs := [.tt (decide ((len : Int) > (len' : Nat)) == false)]) (by kernel_rfl) (by kernel_rfl) ⟨?_, trivial⟩ (Alike.refl _) rfl hs hg hok
      show (decide ((len : Int) > (len' : Nat)) == false) = true
      simp; omega
noncomputable def r1 (vf : List Int → Nat → Nat → Nat) : List (FuncId × Spec) := [(177, fDigit vf), (178, fLonger)]
theorem r1_ok {vf : List Int → Nat → Nat → Nat} (h : vf = vl) (g : Nat) : EnvOk (env (r1 vf)) g := by
  subst h
  exact env_cons (okDigit g) (env_cons (okLonger g) (env_nil g))
end Go.Am.Sl
namespace Go.Am.Sl
open Go.Am Go.Proofs
/- SUMS OF ROWS OF DIGITS (printed by genR2.py) -/
/-- what is carried -/
def cy (A B i : Nat) : Nat := (A % 4294967296 ^ i + B % 4294967296 ^ i) / 4294967296 ^ i
theorem cy_zero (A B : Nat) : cy A B 0 = 0 := by unfold cy; rw [Nat.pow_zero, Nat.mod_one, Nat.mod_one, Nat.div_one]
theorem mod_step (A i : Nat) : A % 4294967296 ^ (i + 1) = A % 4294967296 ^ i + 4294967296 ^ i * dg A i := by
  rw [Nat.pow_succ, Nat.mod_mul]
  rfl
theorem cy_succ (A B i : Nat) : cy A B (i + 1) = (cy A B i + dg A i + dg B i) / 4294967296 := by
  unfold cy
  rw [mod_step, mod_step, Nat.pow_succ, ← Nat.div_div_eq_div_mul]
  generalize hR : 4294967296 ^ i = R
  have hp : 0 < R := by rw [← hR]; exact Nat.pow_pos (by decide)
  have : A % R + R * dg A i + (B % R + R * dg B i) = (A % R + B % R) + R * (dg A i + dg B i) := by grind
  rw [this, Nat.add_mul_div_left _ _ hp, Nat.add_assoc]
theorem cy_dg (A B i : Nat) : dg (A + B) i = (cy A B i + dg A i + dg B i) % 4294967296 := by
  unfold cy dg
  generalize hR : 4294967296 ^ i = R
  have hp : 0 < R := by rw [← hR]; exact Nat.pow_pos (by decide)
  have e : A + B = (A % R + B % R) + R * (A / R + B / R) := by
    have h1 := Nat.div_add_mod A R
    have h2 := Nat.div_add_mod B R
    grind
  rw [e, Nat.add_mul_div_left _ _ hp]
  omega
theorem cy_le (A B i : Nat) : cy A B i ≤ 1 := by
  unfold cy
  have hp : 0 < 4294967296 ^ i := Nat.pow_pos (by decide)
  have h1 := Nat.mod_lt A hp
  have h2 := Nat.mod_lt B hp
  have : (A % 4294967296 ^ i + B % 4294967296 ^ i) / 4294967296 ^ i < 2 := by
    rw [Nat.div_lt_iff_lt_mul hp]
    omega
  omega
/-- a row that is filled from below -/
def part (n v i : Nat) : List Int := digs i v ++ List.replicate (n - i) 0
theorem part_zero (n v : Nat) : part n v 0 = List.replicate n 0 := by simp [part, digs]
theorem part_all (n v : Nat) : part n v n = digs n v := by simp [part]
theorem part_len {n v i : Nat} (h : i ≤ n) : (part n v i).length = n := by simp [part, digs_len]; omega
theorem digs_snoc (i v : Nat) : digs (i + 1) v = digs i v ++ [((dg v i : Nat) : Int)] := by
  unfold digs
  rw [List.range_succ, List.map_append]
  rfl
theorem part_set {n v i : Nat} (h : i < n) : (part n v i).set i ((dg v i : Nat) : Int) = part n v (i + 1) := by
  unfold part
  rw [List.set_append_right _ _ (by rw [digs_len]; exact Nat.le_refl _), digs_len, Nat.sub_self, digs_snoc]
  have : n - i = (n - (i + 1)) + 1 := by omega
  rw [this, List.replicate_succ, List.set_cons_zero, List.append_assoc]
  rfl
theorem wrap64 (a : Nat) (h : a < 2 ^ 64) : IntKind.wrap .u64 (a : Int) = (a : Int) := by
  rw [wrapu, Nat.mod_eq_of_lt h]
theorem wrap32 (a : Nat) : IntKind.wrap .u32 (a : Int) = ((a % 4294967296 : Nat) : Int) := by
  have : IntKind.u32.wrap (a : Int) = (a : Int) % 4294967296 := by
    unfold IntKind.wrap
    exact if_neg (by rintro h; cases h)
  rw [this]
  omega
/-- what the code reckons in a round -/
def sumW (c a b : Nat) : Int := IntKind.wrap .u64 (IntKind.wrap .u64 ((c : Int) + IntKind.wrap .u64 (a : Int)) + IntKind.wrap .u64 (b : Int))
theorem sumW_eq {c a b : Nat} (hc : c ≤ 1) (ha : a < 4294967296) (hb : b < 4294967296) : sumW c a b = ((c + a + b : Nat) : Int) := by
  unfold sumW
  rw [wrap64 a (by omega), wrap64 b (by omega)]
  have : (c : Int) + (a : Int) = ((c + a : Nat) : Int) := by omega
  rw [this, wrap64 (c + a) (by omega)]
  have : ((c + a : Nat) : Int) + (b : Int) = ((c + a + b : Nat) : Int) := by omega
  rw [this, wrap64 _ (by omega)]
def plFD (p off len p' off' len' n c : Nat) (i : Int) : List AVal := frameOf 39 [(0, .bsl 0 p off len), (1, .bsl 1 p' off' len'), (5, .int .i64 n), (6, .bsl 2 0 0 (n + 1)), (7, .int .u64 c), (8, .int .i64 i)]
def plXD (t p off len t' p' off' len' : Nat) (xs xs' : List Int) (n c : Nat) (out : List Int) (i : Int) : Sta := ⟨plFD p off len p' off' len' n c i, [.buf t .u32 xs, .buf t' .u32 xs', .buf 56 .u32 out]⟩
theorem plRoundD (g : Nat) (t p off len t' p' off' len' : Nat) (xs xs' : List Int) (n : Nat) (hn : n ≤ 1000000) (h1 : isN xs off len) (h2 : isN xs' off' len') (i : Nat) (hi : i < n + 1) :
    RunTo (env (r1 vl)) g [] 2 (loopOf (theB 0 (bodyOf Tryd.f100))) (plXD t p off len t' p' off' len' xs xs' n (cy (vl xs off len) (vl xs' off' len') i) (part (n + 1) (vl xs off len + vl xs' off' len') i) i) .normal
      (plXD t p off len t' p' off' len' xs xs' n (cy (vl xs off len) (vl xs' off' len') (i + 1)) (part (n + 1) (vl xs off len + vl xs' off' len') (i + 1)) ((i + 1 : Nat) : Int)) := by
  obtain ⟨vf, hvf⟩ : ∃ vf, vf = vl := ⟨_, rfl⟩
  have hA : vl xs off len = vf xs off len := by rw [hvf]
  have hB : vl xs' off' len' = vf xs' off' len' := by rw [hvf]
  rw [← hvf, cy_succ, ← part_set (v := vf xs off len + vf xs' off' len') hi, cy_dg]
  have hc := cy_le (vf xs off len) (vf xs' off' len') i
  have hs := sumW_eq hc (dg_lt (vf xs off len) i) (dg_lt (vf xs' off' len') i)
  generalize cy (vf xs off len) (vf xs' off' len') i = c at *
  have ho := part_len (n := n + 1) (v := vf xs off len + vf xs' off' len') (Nat.le_of_lt hi)
  generalize part (n + 1) (vf xs off len + vf xs' off' len') i = out at *
  have hw : IntKind.wrap .i64 ((i : Int) + 1) = ((i + 1 : Nat) : Int) := wrapi (i + 1) (by omega)
  have c0 : (0 : Int) ≤ (i : Nat) := Int.natCast_nonneg _
  have main : RunTo (env (r1 vf)) g [] 2 (loopOf (theB 0 (bodyOf Tryd.f100))) (plXD t p off len t' p' off' len' xs xs' n c out i) .normal
      ⟨frameOf 39 [(0, .bsl 0 p off len), (1, .bsl 1 p' off' len'), (5, .int .i64 n), (6, .bsl 2 0 0 (n + 1)), (7, .int .u64 (Int.fdiv (sumW c (dg (vf xs off len) i) (dg (vf xs' off' len') i)) 4294967296)), (8, .int .i64 ((i + 1 : Nat) : Int))],
        [.buf t .u32 xs, .buf t' .u32 xs', .buf 56 .u32 (out.set (0 + i) (IntKind.wrap .u32 (sumW c (dg (vf xs off len) i) (dg (vf xs' off' len') i))))]⟩ := by
    refine goR (r1_ok hvf g) ⟨[17], [8]⟩ [] 90 [true] [0, 1, 5, 6, 7, 8] (by kernel_rfl) trivial (X := plXD t p off len t' p' off' len' xs xs' n c out i)
      (Y0 := ⟨frameOf 39 [(0, .bsl 0 p off len), (1, .bsl 1 p' off' len'), (5, .int .i64 n), (6, .bsl 2 0 0 (n + 1)), (7, .int .u64 (Int.fdiv (sumW c (dg (vf xs off len) i) (dg (vf xs' off' len') i)) 4294967296)), (8, .int .i64 (IntKind.wrap .i64 ((i : Int) + 1)))],
        [.buf t .u32 xs, .buf t' .u32 xs', .buf 56 .u32 (out.set (0 + i) (IntKind.wrap .u32 (sumW c (dg (vf xs off len) i) (dg (vf xs' off' len') i))))]⟩)
      (cs := [.tt (decide ((i : Int) ≤ (n : Nat)) == true), .ile 0 (i : Nat), .prop (isN xs off len), .ile 0 (i : Nat), .prop (isN xs' off' len'), .ile 0 (i : Nat), .ilt (i : Nat) ((n + 1 : Nat) : Int), .le (0 + (n + 1)) out.length, .lt (0 + i) out.length])
      (by kernel_rfl) (by kernel_rfl) ⟨?_, c0, h1, c0, h2, c0, ?_, ?_, ?_, trivial⟩ (by rw [hw])
    · show (decide ((i : Int) ≤ (n : Nat)) == true) = true
      simp; omega
    · show ((i : Nat) : Int) < ((n + 1 : Nat) : Int); omega
    · show 0 + (n + 1) ≤ out.length; omega
    · show 0 + i < out.length; omega
  rw [hs, wrap32, Nat.zero_add] at main
  have hf : Int.fdiv ((c + dg (vf xs off len) i + dg (vf xs' off' len') i : Nat) : Int) 4294967296 = (((c + dg (vf xs off len) i + dg (vf xs' off' len') i) / 4294967296 : Nat) : Int) := by
    rw [Int.fdiv_eq_ediv_of_nonneg _ (by decide)]
    omega
  rw [hf] at main
  exact main
theorem plExitD (g : Nat) (t p off len t' p' off' len' : Nat) (xs xs' : List Int) (n c : Nat) (out : List Int) :
    RunTo (env (r1 vl)) g [] 2 (loopOf (theB 0 (bodyOf Tryd.f100))) (plXD t p off len t' p' off' len' xs xs' n c out ((n + 1 : Nat) : Int)) (.exit 0) (plXD t p off len t' p' off' len' xs xs' n c out ((n + 1 : Nat) : Int)) := by
  refine goR (r1_ok rfl g) ⟨[17], []⟩ [] 90 [false] [0, 1, 5, 6, 7, 8] (by kernel_rfl) trivial (X := plXD t p off len t' p' off' len' xs xs' n c out ((n + 1 : Nat) : Int)) (cs := [.tt (decide (((n + 1 : Nat) : Int) ≤ (n : Nat)) == false)]) (by kernel_rfl) (by kernel_rfl) ⟨?_, trivial⟩ rfl
  show (decide (((n + 1 : Nat) : Int) ≤ (n : Nat)) == false) = true
  simp; omega
theorem plLoopD (g : Nat) (t p off len t' p' off' len' : Nat) (xs xs' : List Int) (n : Nat) (hn : n ≤ 1000000) (h1 : isN xs off len) (h2 : isN xs' off' len') :
    RunTo (env (r1 vl)) g [] 2 (.block 0 (theB 0 (bodyOf Tryd.f100))) (plXD t p off len t' p' off' len' xs xs' n 0 (List.replicate (n + 1) 0) 0) .normal
      (plXD t p off len t' p' off' len' xs xs' n (cy (vl xs off len) (vl xs' off' len') (n + 1)) (digs (n + 1) (vl xs off len + vl xs' off' len')) ((n + 1 : Nat) : Int)) := by
  have e : theB 0 (bodyOf Tryd.f100) = .loop (loopOf (theB 0 (bodyOf Tryd.f100))) := by kernel_rfl
  rw [e]
  have key := RunTo.loop (E := env (r1 vl)) (g := g) (ds := []) (n0 := 2) (c := loopOf (theB 0 (bodyOf Tryd.f100))) (fun i => i ≤ n + 1) (fun i => n + 1 - i)
    (fun i => plXD t p off len t' p' off' len' xs xs' n (cy (vl xs off len) (vl xs' off' len') i) (part (n + 1) (vl xs off len + vl xs' off' len') i) (i : Nat))
    (fun _ => (.exit 0, plXD t p off len t' p' off' len' xs xs' n (cy (vl xs off len) (vl xs' off' len') (n + 1)) (digs (n + 1) (vl xs off len + vl xs' off' len')) ((n + 1 : Nat) : Int))) ?_ 0 (Nat.zero_le _)
  · simp only [cy_zero, part_zero] at key
    exact RunTo.block key
  · intro i hi
    rcases Nat.lt_or_ge i (n + 1) with h | h
    · exact .inl ⟨i + 1, by omega, by omega, rfl, plRoundD g t p off len t' p' off' len' xs xs' n hn h1 h2 i h⟩
    · have : i = n + 1 := by omega
      subst this
      refine .inr ⟨(by intro h; cases h), ?_⟩
      rw [part_all]
      exact plExitD g t p off len t' p' off' len' xs xs' n _ _
def plFS (p off len p' off' len' n c : Nat) (i : Int) : List AVal := frameOf 39 [(0, .bsl 0 p off len), (1, .bsl 0 p' off' len'), (5, .int .i64 n), (6, .bsl 1 0 0 (n + 1)), (7, .int .u64 c), (8, .int .i64 i)]
def plXS (t p off len p' off' len' : Nat) (xs : List Int) (n c : Nat) (out : List Int) (i : Int) : Sta := ⟨plFS p off len p' off' len' n c i, [.buf t .u32 xs, .buf 56 .u32 out]⟩
theorem plRoundS (g : Nat) (t p off len p' off' len' : Nat) (xs : List Int) (n : Nat) (hn : n ≤ 1000000) (h1 : isN xs off len) (h2 : isN xs off' len') (i : Nat) (hi : i < n + 1) :
    RunTo (env (r1 vl)) g [] 1 (loopOf (theB 0 (bodyOf Tryd.f100))) (plXS t p off len p' off' len' xs n (cy (vl xs off len) (vl xs off' len') i) (part (n + 1) (vl xs off len + vl xs off' len') i) i) .normal
      (plXS t p off len p' off' len' xs n (cy (vl xs off len) (vl xs off' len') (i + 1)) (part (n + 1) (vl xs off len + vl xs off' len') (i + 1)) ((i + 1 : Nat) : Int)) := by
  obtain ⟨vf, hvf⟩ : ∃ vf, vf = vl := ⟨_, rfl⟩
  have hA : vl xs off len = vf xs off len := by rw [hvf]
  have hB : vl xs off' len' = vf xs off' len' := by rw [hvf]
  rw [← hvf, cy_succ, ← part_set (v := vf xs off len + vf xs off' len') hi, cy_dg]
  have hc := cy_le (vf xs off len) (vf xs off' len') i
  have hs := sumW_eq hc (dg_lt (vf xs off len) i) (dg_lt (vf xs off' len') i)
  generalize cy (vf xs off len) (vf xs off' len') i = c at *
  have ho := part_len (n := n + 1) (v := vf xs off len + vf xs off' len') (Nat.le_of_lt hi)
  generalize part (n + 1) (vf xs off len + vf xs off' len') i = out at *
  have hw : IntKind.wrap .i64 ((i : Int) + 1) = ((i + 1 : Nat) : Int) := wrapi (i + 1) (by omega)
  have c0 : (0 : Int) ≤ (i : Nat) := Int.natCast_nonneg _
  have main : RunTo (env (r1 vf)) g [] 1 (loopOf (theB 0 (bodyOf Tryd.f100))) (plXS t p off len p' off' len' xs n c out i) .normal
      ⟨frameOf 39 [(0, .bsl 0 p off len), (1, .bsl 0 p' off' len'), (5, .int .i64 n), (6, .bsl 1 0 0 (n + 1)), (7, .int .u64 (Int.fdiv (sumW c (dg (vf xs off len) i) (dg (vf xs off' len') i)) 4294967296)), (8, .int .i64 ((i + 1 : Nat) : Int))],
        [.buf t .u32 xs, .buf 56 .u32 (out.set (0 + i) (IntKind.wrap .u32 (sumW c (dg (vf xs off len) i) (dg (vf xs off' len') i))))]⟩ := by
    refine goR (r1_ok hvf g) ⟨[17], [8]⟩ [] 90 [true] [0, 1, 5, 6, 7, 8] (by kernel_rfl) trivial (X := plXS t p off len p' off' len' xs n c out i)
      (Y0 := ⟨frameOf 39 [(0, .bsl 0 p off len), (1, .bsl 0 p' off' len'), (5, .int .i64 n), (6, .bsl 1 0 0 (n + 1)), (7, .int .u64 (Int.fdiv (sumW c (dg (vf xs off len) i) (dg (vf xs off' len') i)) 4294967296)), (8, .int .i64 (IntKind.wrap .i64 ((i : Int) + 1)))],
        [.buf t .u32 xs, .buf 56 .u32 (out.set (0 + i) (IntKind.wrap .u32 (sumW c (dg (vf xs off len) i) (dg (vf xs off' len') i))))]⟩)
      (cs := [.tt (decide ((i : Int) ≤ (n : Nat)) == true), .ile 0 (i : Nat), .prop (isN xs off len), .ile 0 (i : Nat), .prop (isN xs off' len'), .ile 0 (i : Nat), .ilt (i : Nat) ((n + 1 : Nat) : Int), .le (0 + (n + 1)) out.length, .lt (0 + i) out.length])
      (by kernel_rfl) (by kernel_rfl) ⟨?_, c0, h1, c0, h2, c0, ?_, ?_, ?_, trivial⟩ (by rw [hw])
    · show (decide ((i : Int) ≤ (n : Nat)) == true) = true
      simp; omega
    · show ((i : Nat) : Int) < ((n + 1 : Nat) : Int); omega
    · show 0 + (n + 1) ≤ out.length; omega
    · show 0 + i < out.length; omega
  rw [hs, wrap32, Nat.zero_add] at main
  have hf : Int.fdiv ((c + dg (vf xs off len) i + dg (vf xs off' len') i : Nat) : Int) 4294967296 = (((c + dg (vf xs off len) i + dg (vf xs off' len') i) / 4294967296 : Nat) : Int) := by
    rw [Int.fdiv_eq_ediv_of_nonneg _ (by decide)]
    omega
  rw [hf] at main
  exact main
theorem plExitS (g : Nat) (t p off len p' off' len' : Nat) (xs : List Int) (n c : Nat) (out : List Int) :
    RunTo (env (r1 vl)) g [] 1 (loopOf (theB 0 (bodyOf Tryd.f100))) (plXS t p off len p' off' len' xs n c out ((n + 1 : Nat) : Int)) (.exit 0) (plXS t p off len p' off' len' xs n c out ((n + 1 : Nat) : Int)) := by
  refine goR (r1_ok rfl g) ⟨[17], []⟩ [] 90 [false] [0, 1, 5, 6, 7, 8] (by kernel_rfl) trivial (X := plXS t p off len p' off' len' xs n c out ((n + 1 : Nat) : Int)) (cs := [.tt (decide (((n + 1 : Nat) : Int) ≤ (n : Nat)) == false)]) (by kernel_rfl) (by kernel_rfl) ⟨?_, trivial⟩ rfl
  show (decide (((n + 1 : Nat) : Int) ≤ (n : Nat)) == false) = true
  simp; omega
theorem plLoopS (g : Nat) (t p off len p' off' len' : Nat) (xs : List Int) (n : Nat) (hn : n ≤ 1000000) (h1 : isN xs off len) (h2 : isN xs off' len') :
    RunTo (env (r1 vl)) g [] 1 (.block 0 (theB 0 (bodyOf Tryd.f100))) (plXS t p off len p' off' len' xs n 0 (List.replicate (n + 1) 0) 0) .normal
      (plXS t p off len p' off' len' xs n (cy (vl xs off len) (vl xs off' len') (n + 1)) (digs (n + 1) (vl xs off len + vl xs off' len')) ((n + 1 : Nat) : Int)) := by
  have e : theB 0 (bodyOf Tryd.f100) = .loop (loopOf (theB 0 (bodyOf Tryd.f100))) := by kernel_rfl
  rw [e]
  have key := RunTo.loop (E := env (r1 vl)) (g := g) (ds := []) (n0 := 1) (c := loopOf (theB 0 (bodyOf Tryd.f100))) (fun i => i ≤ n + 1) (fun i => n + 1 - i)
    (fun i => plXS t p off len p' off' len' xs n (cy (vl xs off len) (vl xs off' len') i) (part (n + 1) (vl xs off len + vl xs off' len') i) (i : Nat))
    (fun _ => (.exit 0, plXS t p off len p' off' len' xs n (cy (vl xs off len) (vl xs off' len') (n + 1)) (digs (n + 1) (vl xs off len + vl xs off' len')) ((n + 1 : Nat) : Int))) ?_ 0 (Nat.zero_le _)
  · simp only [cy_zero, part_zero] at key
    exact RunTo.block key
  · intro i hi
    rcases Nat.lt_or_ge i (n + 1) with h | h
    · exact .inl ⟨i + 1, by omega, by omega, rfl, plRoundS g t p off len p' off' len' xs n hn h1 h2 i h⟩
    · have : i = n + 1 := by omega
      subst this
      refine .inr ⟨(by intro h; cases h), ?_⟩
      rw [part_all]
      exact plExitS g t p off len p' off' len' xs n _ _
end Go.Am.Sl
namespace Go.Am.Sl
open Go.Am Go.Proofs
/- THE SUM (printed by genR3.py) -/
def fSum (vf : List Int → Nat → Nat → Nat) (df : Nat → Nat → List Int) : Spec := fun args H =>
  match args, H with
  | [.bsl 0 p off len, .bsl 1 p' off' len'], [.buf t .u32 xs, .buf t' .u32 xs'] =>
    some (.bsl 2 0 0 (Nat.max len len' + 1), [.buf t .u32 xs, .buf t' .u32 xs', .buf 56 .u32 (df (Nat.max len len' + 1) (vf xs off len + vf xs' off' len'))], [.le len 100000, .le len' 100000, .prop (isN xs off len), .prop (isN xs' off' len')])
  | [.bsl 0 p off len, .bsl 0 p' off' len'], [.buf t .u32 xs] =>
    some (.bsl 1 0 0 (Nat.max len len' + 1), [.buf t .u32 xs, .buf 56 .u32 (df (Nat.max len len' + 1) (vf xs off len + vf xs off' len'))], [.le len 100000, .le len' 100000, .prop (isN xs off len), .prop (isN xs off' len')])
  | _, _ => none
theorem replN (n : Nat) : (List.replicate n 0).length = n := by simp
theorem okSum {vf : List Int → Nat → Nat → Nat} {df : Nat → Nat → List Int} (hv : vf = vl) (hd : df = digs) (g : Nat) : Ok g 100 (fSum vf df) := by
  subst hv hd
  intro args H r H' c h hc L w hs hg hok
  unfold fSum at h
  split at h
  case h_3 => cases h
  · rename_i p off len p' off' len' t xs t' xs'
    simp only [Option.some.injEq, Prod.mk.injEq] at h
    obtain ⟨rfl, rfl, rfl⟩ := h
    obtain ⟨k1, k2, h1, h2, _⟩ := hc
    have k1 : len ≤ 100000 := k1
    have k2 : len' ≤ 100000 := k2
    have km : Nat.max len len' ≤ 100000 := Nat.max_le.2 ⟨k1, k2⟩
    have hw : IntKind.wrap .i64 ((Nat.max len len' : Nat) + 1) = ((Nat.max len len' + 1 : Nat) : Int) := wrapi (Nat.max len len' + 1) (by omega)
    have hB : sumsOk (env (r1 vl)) g [] 2 (bodyOf Tryd.f100) [toldB 2 0 [0, 1, 5, 6, 7, 8] (plXD t p off len t' p' off' len' xs xs' (Nat.max len len') 0 (List.replicate (Nat.max len len' + 1) 0) 0) .normal
        (plXD t p off len t' p' off' len' xs xs' (Nat.max len len') (cy (vl xs off len) (vl xs' off' len') (Nat.max len len' + 1)) (digs (Nat.max len len' + 1) (vl xs off len + vl xs' off' len')) ((Nat.max len len' + 1 : Nat) : Int))] :=
      ⟨toldB_ok (id := 0) (plLoopD g t p off len t' p' off' len' xs xs' (Nat.max len len') (by omega) h1 h2), trivial⟩
    generalize digs (Nat.max len len' + 1) (vl xs off len + vl xs' off' len') = out at *
    generalize cy (vl xs off len) (vl xs' off' len') (Nat.max len len' + 1) = c at *
    refine goB (H := [.buf t .u32 xs, .buf t' .u32 xs']) (r1_ok rfl g) ⟨[], [2]⟩ _ 90 [] Tryd.func100 (by kernel_rfl) (by kernel_rfl) (by kernel_rfl) hB (r0 := .bsl 2 0 0 (Nat.max len len' + 1)) (H0 := [.buf t .u32 xs, .buf t' .u32 xs', .buf 56 .u32 out])
      (cs := [.ile 0 (IntKind.wrap .i64 ((Nat.max len len' : Nat) + 1)), .ile (IntKind.wrap .i64 ((Nat.max len len' : Nat) + 1)) (IntKind.wrap .i64 ((Nat.max len len' : Nat) + 1)), .ile (IntKind.wrap .i64 ((Nat.max len len' : Nat) + 1)) 1099511627776,
        .prop (AlikeS ⟨frameOf 39 [(0, .bsl 0 p off len), (1, .bsl 1 p' off' len'), (5, .int .i64 (Nat.max len len' : Nat)), (6, .bsl 2 0 0 (IntKind.wrap .i64 ((Nat.max len len' : Nat) + 1)).toNat), (7, .int .u64 0), (8, .int .i64 0)], [.buf t .u32 xs, .buf t' .u32 xs', .buf 56 .u32 (List.replicate (IntKind.wrap .i64 ((Nat.max len len' : Nat) + 1)).toNat 0)]⟩
          (plXD t p off len t' p' off' len' xs xs' (Nat.max len len') 0 (List.replicate (Nat.max len len' + 1) 0) 0))]) (by kernel_rfl) (by kernel_rfl) ?_ (Alike.refl _) rfl hs hg hok
    refine ⟨?_, Int.le_refl _, ?_, ?_, trivial⟩
    · show (0 : Int) ≤ _; rw [hw]; exact Int.natCast_nonneg _
    · show _ ≤ (1099511627776 : Int); rw [hw]; omega
    · show AlikeS _ _
      rw [hw]
      exact AlikeS.refl _
  · rename_i p off len p' off' len' t xs
    simp only [Option.some.injEq, Prod.mk.injEq] at h
    obtain ⟨rfl, rfl, rfl⟩ := h
    obtain ⟨k1, k2, h1, h2, _⟩ := hc
    have k1 : len ≤ 100000 := k1
    have k2 : len' ≤ 100000 := k2
    have km : Nat.max len len' ≤ 100000 := Nat.max_le.2 ⟨k1, k2⟩
    have hw : IntKind.wrap .i64 ((Nat.max len len' : Nat) + 1) = ((Nat.max len len' + 1 : Nat) : Int) := wrapi (Nat.max len len' + 1) (by omega)
    have hB : sumsOk (env (r1 vl)) g [] 1 (bodyOf Tryd.f100) [toldB 1 0 [0, 1, 5, 6, 7, 8] (plXS t p off len p' off' len' xs (Nat.max len len') 0 (List.replicate (Nat.max len len' + 1) 0) 0) .normal
        (plXS t p off len p' off' len' xs (Nat.max len len') (cy (vl xs off len) (vl xs off' len') (Nat.max len len' + 1)) (digs (Nat.max len len' + 1) (vl xs off len + vl xs off' len')) ((Nat.max len len' + 1 : Nat) : Int))] :=
      ⟨toldB_ok (id := 0) (plLoopS g t p off len p' off' len' xs (Nat.max len len') (by omega) h1 h2), trivial⟩
    generalize digs (Nat.max len len' + 1) (vl xs off len + vl xs off' len') = out at *
    generalize cy (vl xs off len) (vl xs off' len') (Nat.max len len' + 1) = c at *
    refine goB (H := [.buf t .u32 xs]) (r1_ok rfl g) ⟨[], [2]⟩ _ 90 [] Tryd.func100 (by kernel_rfl) (by kernel_rfl) (by kernel_rfl) hB (r0 := .bsl 1 0 0 (Nat.max len len' + 1)) (H0 := [.buf t .u32 xs, .buf 56 .u32 out])
      (cs := [.ile 0 (IntKind.wrap .i64 ((Nat.max len len' : Nat) + 1)), .ile (IntKind.wrap .i64 ((Nat.max len len' : Nat) + 1)) (IntKind.wrap .i64 ((Nat.max len len' : Nat) + 1)), .ile (IntKind.wrap .i64 ((Nat.max len len' : Nat) + 1)) 1099511627776,
        .prop (AlikeS ⟨frameOf 39 [(0, .bsl 0 p off len), (1, .bsl 0 p' off' len'), (5, .int .i64 (Nat.max len len' : Nat)), (6, .bsl 1 0 0 (IntKind.wrap .i64 ((Nat.max len len' : Nat) + 1)).toNat), (7, .int .u64 0), (8, .int .i64 0)], [.buf t .u32 xs, .buf 56 .u32 (List.replicate (IntKind.wrap .i64 ((Nat.max len len' : Nat) + 1)).toNat 0)]⟩
          (plXS t p off len p' off' len' xs (Nat.max len len') 0 (List.replicate (Nat.max len len' + 1) 0) 0))]) (by kernel_rfl) (by kernel_rfl) ?_ (Alike.refl _) rfl hs hg hok
    refine ⟨?_, Int.le_refl _, ?_, ?_, trivial⟩
    · show (0 : Int) ≤ _; rw [hw]; exact Int.natCast_nonneg _
    · show _ ≤ (1099511627776 : Int); rw [hw]; omega
    · show AlikeS _ _
      rw [hw]
      exact AlikeS.refl _
end Go.Am.Sl
namespace Go.Am.Sl
open Go.Am Go.Proofs
/- DIFFERENCES OF ROWS OF DIGITS (printed by genR4.py) -/
theorem getN {xs : List Int} {off len i : Nat} (h : isN xs off len) (hi : i < len) : xs.getD (off + i) 0 = ((dg (vl xs off len) i : Nat) : Int) := by
  rw [← cut_get hi, get_dg h.2 (by rw [cut_len h.1]; exact hi)]
  rfl
def difW (v : Int) (a b : Int) : Int := IntKind.wrap .i64 (IntKind.wrap .i64 (v + IntKind.wrap .i64 a) - IntKind.wrap .i64 b)
theorem difW_eq {C B i : Nat} : difW (-((cy C B i : Nat) : Int)) ((dg (C + B) i : Nat) : Int) ((dg B i : Nat) : Int) = ((dg C i : Nat) : Int) - 4294967296 * ((cy C B (i + 1) : Nat) : Int) := by
  have h1 := cy_le C B i
  have h2 := dg_lt C i
  have h3 := dg_lt B i
  rw [cy_dg, cy_succ]
  unfold difW
  generalize cy C B i = c at *
  generalize dg C i = d at *
  generalize dg B i = b at *
  have h4 : (c + d + b) % 4294967296 < 4294967296 := Nat.mod_lt _ (by decide)
  have h5 : (c + d + b) / 4294967296 ≤ 2 := by omega
  rw [wrapI (z := (((c + d + b) % 4294967296 : Nat) : Int)) (by omega) (by omega), wrapI (z := (b : Int)) (by omega) (by omega), wrapI (z := -(c : Int) + (((c + d + b) % 4294967296 : Nat) : Int)) (by omega) (by omega),
    wrapI (by omega) (by omega)]
  omega
theorem wrap32I (a : Int) : IntKind.wrap .u32 a = a % 4294967296 := by
  unfold IntKind.wrap
  exact if_neg (by rintro h; cases h)
def miXD (t p off len t' p' off' len' : Nat) (xs xs' : List Int) (v : Int) (out : List Int) (i : Int) : Sta := ⟨frameOf 37 [(0, .bsl 0 p off len), (1, .bsl 1 p' off' len'), (5, .bsl 2 0 0 len), (6, .int .i64 v), (7, .int .i64 i)], [.buf t .u32 xs, .buf t' .u32 xs', .buf 56 .u32 out]⟩
theorem miStepD (vf : List Int → Nat → Nat → Nat) (hvf : vf = vl) (g : Nat) (t p off len t' p' off' len' : Nat) (xs xs' : List Int) (hn : len ≤ 1000000) (h1 : isN xs off len) (h2 : isN xs' off' len') (i : Nat) (hi : i < len) (v : Int) (out : List Int) (ho : out.length = len) :
    RunTo (env (r1 vf)) g [] 2 (loopOf (theB 0 (bodyOf Tryd.f98))) (miXD t p off len t' p' off' len' xs xs' v out i) .normal (miXD t p off len t' p' off' len' xs xs' (Int.fdiv (difW v (xs.getD (off + i) 0) (dg (vf xs' off' len') i : Nat)) 4294967296) (out.set (0 + i) (IntKind.wrap .u32 (difW v (xs.getD (off + i) 0) (dg (vf xs' off' len') i : Nat)))) ((i + 1 : Nat) : Int)) := by
  have hw : IntKind.wrap .i64 ((i : Int) + 1) = ((i + 1 : Nat) : Int) := wrapi (i + 1) (by omega)
  have c0 : (0 : Int) ≤ (i : Nat) := Int.natCast_nonneg _
  have c1 : ((i : Nat) : Int) < (len : Nat) := by omega
  have hl := h1.1
  refine goR (r1_ok hvf g) ⟨[14], [6, 7]⟩ [] 90 [true] [0, 1, 5, 6, 7] (by kernel_rfl) trivial (X := miXD t p off len t' p' off' len' xs xs' v out i)
    (Y0 := miXD t p off len t' p' off' len' xs xs' (Int.fdiv (difW v (xs.getD (off + i) 0) (dg (vf xs' off' len') i : Nat)) 4294967296) (out.set (0 + i) (IntKind.wrap .u32 (difW v (xs.getD (off + i) 0) (dg (vf xs' off' len') i : Nat)))) (IntKind.wrap .i64 ((i : Int) + 1)))
    (cs := [.tt (decide ((i : Int) < (len : Nat)) == true), .ile 0 (i : Nat), .ilt (i : Nat) (len : Nat), .le (off + len) xs.length, .ile 0 (i : Nat), .ilt (i : Nat) (len : Nat), .le (off + len) xs.length, .lt (off + i) xs.length, .lt (off + i) xs.length, .ile 0 (i : Nat), .prop (isN xs' off' len'), .ile 0 (i : Nat), .ilt (i : Nat) (len : Nat), .le (0 + len) out.length, .lt (0 + i) out.length])
    (by kernel_rfl) (by kernel_rfl) ⟨?_, c0, c1, hl, c0, c1, hl, ?_, ?_, c0, h2, c0, c1, ?_, ?_, trivial⟩ (by rw [hw])
  · show (decide ((i : Int) < (len : Nat)) == true) = true
    simp; omega
  · show off + i < xs.length; omega
  · show off + i < xs.length; omega
  · show 0 + len ≤ out.length; omega
  · show 0 + i < out.length; omega
theorem miRoundD (g : Nat) (t p off len t' p' off' len' : Nat) (xs xs' : List Int) (hn : len ≤ 1000000) (h1 : isN xs off len) (h2 : isN xs' off' len') (hle : vl xs' off' len' ≤ vl xs off len) (i : Nat) (hi : i < len) :
    RunTo (env (r1 vl)) g [] 2 (loopOf (theB 0 (bodyOf Tryd.f98))) (miXD t p off len t' p' off' len' xs xs' (-((cy (vl xs off len - vl xs' off' len') (vl xs' off' len') i : Nat) : Int)) (part len (vl xs off len - vl xs' off' len') i) i) .normal
      (miXD t p off len t' p' off' len' xs xs' (-((cy (vl xs off len - vl xs' off' len') (vl xs' off' len') (i + 1) : Nat) : Int)) (part len (vl xs off len - vl xs' off' len') (i + 1)) ((i + 1 : Nat) : Int)) := by
  have main := miStepD vl rfl g t p off len t' p' off' len' xs xs' hn h1 h2 i hi (-((cy (vl xs off len - vl xs' off' len') (vl xs' off' len') i : Nat) : Int)) (part len (vl xs off len - vl xs' off' len') i) (part_len (Nat.le_of_lt hi))
  have e : vl xs off len = (vl xs off len - vl xs' off' len') + (vl xs' off' len') := by omega
  have ed : dg (vl xs off len) i = dg ((vl xs off len - vl xs' off' len') + (vl xs' off' len')) i := by rw [← e]
  rw [getN h1 hi, ed, difW_eq, wrap32I, Nat.zero_add] at main
  have h5 := dg_lt (vl xs off len - vl xs' off' len') i
  have e1 : ((dg (vl xs off len - vl xs' off' len') i : Nat) : Int) - 4294967296 * ((cy (vl xs off len - vl xs' off' len') (vl xs' off' len') (i + 1) : Nat) : Int) = ((dg (vl xs off len - vl xs' off' len') i : Nat) : Int) + 4294967296 * (-((cy (vl xs off len - vl xs' off' len') (vl xs' off' len') (i + 1) : Nat) : Int)) := by omega
  have e2 : (((dg (vl xs off len - vl xs' off' len') i : Nat) : Int) - 4294967296 * ((cy (vl xs off len - vl xs' off' len') (vl xs' off' len') (i + 1) : Nat) : Int)) % 4294967296 = ((dg (vl xs off len - vl xs' off' len') i : Nat) : Int) := by omega
  have e3 : Int.fdiv (((dg (vl xs off len - vl xs' off' len') i : Nat) : Int) - 4294967296 * ((cy (vl xs off len - vl xs' off' len') (vl xs' off' len') (i + 1) : Nat) : Int)) 4294967296 = -((cy (vl xs off len - vl xs' off' len') (vl xs' off' len') (i + 1) : Nat) : Int) := by
    rw [Int.fdiv_eq_ediv_of_nonneg _ (by decide)]
    omega
  rw [e2, e3, part_set hi] at main
  exact main
theorem miExitD (g : Nat) (t p off len t' p' off' len' : Nat) (xs xs' : List Int) (v : Int) (out : List Int) :
    RunTo (env (r1 vl)) g [] 2 (loopOf (theB 0 (bodyOf Tryd.f98))) (miXD t p off len t' p' off' len' xs xs' v out (len : Nat)) (.exit 0) (miXD t p off len t' p' off' len' xs xs' v out (len : Nat)) := by
  refine goR (r1_ok rfl g) ⟨[14], []⟩ [] 90 [false] [0, 1, 5, 6, 7] (by kernel_rfl) trivial (X := miXD t p off len t' p' off' len' xs xs' v out (len : Nat)) (cs := [.tt (decide ((len : Int) < (len : Nat)) == false)]) (by kernel_rfl) (by kernel_rfl) ⟨?_, trivial⟩ rfl
  show (decide ((len : Int) < (len : Nat)) == false) = true
  simp
theorem miLoopD (g : Nat) (t p off len t' p' off' len' : Nat) (xs xs' : List Int) (hn : len ≤ 1000000) (h1 : isN xs off len) (h2 : isN xs' off' len') (hle : vl xs' off' len' ≤ vl xs off len) :
    RunTo (env (r1 vl)) g [] 2 (.block 0 (theB 0 (bodyOf Tryd.f98))) (miXD t p off len t' p' off' len' xs xs' 0 (List.replicate len 0) 0) .normal
      (miXD t p off len t' p' off' len' xs xs' (-((cy (vl xs off len - vl xs' off' len') (vl xs' off' len') len : Nat) : Int)) (digs len (vl xs off len - vl xs' off' len')) (len : Nat)) := by
  have e : theB 0 (bodyOf Tryd.f98) = .loop (loopOf (theB 0 (bodyOf Tryd.f98))) := by kernel_rfl
  rw [e]
  have key := RunTo.loop (E := env (r1 vl)) (g := g) (ds := []) (n0 := 2) (c := loopOf (theB 0 (bodyOf Tryd.f98))) (fun i => i ≤ len) (fun i => len - i)
    (fun i => miXD t p off len t' p' off' len' xs xs' (-((cy (vl xs off len - vl xs' off' len') (vl xs' off' len') i : Nat) : Int)) (part len (vl xs off len - vl xs' off' len') i) (i : Nat))
    (fun _ => (.exit 0, miXD t p off len t' p' off' len' xs xs' (-((cy (vl xs off len - vl xs' off' len') (vl xs' off' len') len : Nat) : Int)) (digs len (vl xs off len - vl xs' off' len')) (len : Nat))) ?_ 0 (Nat.zero_le _)
  · simp only [cy_zero, part_zero] at key
    exact RunTo.block key
  · intro i hi
    rcases Nat.lt_or_ge i len with h | h
    · exact .inl ⟨i + 1, by omega, by omega, rfl, miRoundD g t p off len t' p' off' len' xs xs' hn h1 h2 hle i h⟩
    · have : len = i := by omega
      subst this
      refine .inr ⟨(by intro h; cases h), ?_⟩
      rw [part_all]
      exact miExitD g t p off len t' p' off' len' xs xs' _ _
def miXS (t p off len p' off' len' : Nat) (xs : List Int) (v : Int) (out : List Int) (i : Int) : Sta := ⟨frameOf 37 [(0, .bsl 0 p off len), (1, .bsl 0 p' off' len'), (5, .bsl 1 0 0 len), (6, .int .i64 v), (7, .int .i64 i)], [.buf t .u32 xs, .buf 56 .u32 out]⟩
theorem miStepS (vf : List Int → Nat → Nat → Nat) (hvf : vf = vl) (g : Nat) (t p off len p' off' len' : Nat) (xs : List Int) (hn : len ≤ 1000000) (h1 : isN xs off len) (h2 : isN xs off' len') (i : Nat) (hi : i < len) (v : Int) (out : List Int) (ho : out.length = len) :
    RunTo (env (r1 vf)) g [] 1 (loopOf (theB 0 (bodyOf Tryd.f98))) (miXS t p off len p' off' len' xs v out i) .normal (miXS t p off len p' off' len' xs (Int.fdiv (difW v (xs.getD (off + i) 0) (dg (vf xs off' len') i : Nat)) 4294967296) (out.set (0 + i) (IntKind.wrap .u32 (difW v (xs.getD (off + i) 0) (dg (vf xs off' len') i : Nat)))) ((i + 1 : Nat) : Int)) := by
  have hw : IntKind.wrap .i64 ((i : Int) + 1) = ((i + 1 : Nat) : Int) := wrapi (i + 1) (by omega)
  have c0 : (0 : Int) ≤ (i : Nat) := Int.natCast_nonneg _
  have c1 : ((i : Nat) : Int) < (len : Nat) := by omega
  have hl := h1.1
  refine goR (r1_ok hvf g) ⟨[14], [6, 7]⟩ [] 90 [true] [0, 1, 5, 6, 7] (by kernel_rfl) trivial (X := miXS t p off len p' off' len' xs v out i)
    (Y0 := miXS t p off len p' off' len' xs (Int.fdiv (difW v (xs.getD (off + i) 0) (dg (vf xs off' len') i : Nat)) 4294967296) (out.set (0 + i) (IntKind.wrap .u32 (difW v (xs.getD (off + i) 0) (dg (vf xs off' len') i : Nat)))) (IntKind.wrap .i64 ((i : Int) + 1)))
    (cs := [.tt (decide ((i : Int) < (len : Nat)) == true), .ile 0 (i : Nat), .ilt (i : Nat) (len : Nat), .le (off + len) xs.length, .ile 0 (i : Nat), .ilt (i : Nat) (len : Nat), .le (off + len) xs.length, .lt (off + i) xs.length, .lt (off + i) xs.length, .ile 0 (i : Nat), .prop (isN xs off' len'), .ile 0 (i : Nat), .ilt (i : Nat) (len : Nat), .le (0 + len) out.length, .lt (0 + i) out.length])
    (by kernel_rfl) (by kernel_rfl) ⟨?_, c0, c1, hl, c0, c1, hl, ?_, ?_, c0, h2, c0, c1, ?_, ?_, trivial⟩ (by rw [hw])
  · show (decide ((i : Int) < (len : Nat)) == true) = true
    simp; omega
  · show off + i < xs.length; omega
  · show off + i < xs.length; omega
  · show 0 + len ≤ out.length; omega
  · show 0 + i < out.length; omega
theorem miRoundS (g : Nat) (t p off len p' off' len' : Nat) (xs : List Int) (hn : len ≤ 1000000) (h1 : isN xs off len) (h2 : isN xs off' len') (hle : vl xs off' len' ≤ vl xs off len) (i : Nat) (hi : i < len) :
    RunTo (env (r1 vl)) g [] 1 (loopOf (theB 0 (bodyOf Tryd.f98))) (miXS t p off len p' off' len' xs (-((cy (vl xs off len - vl xs off' len') (vl xs off' len') i : Nat) : Int)) (part len (vl xs off len - vl xs off' len') i) i) .normal
      (miXS t p off len p' off' len' xs (-((cy (vl xs off len - vl xs off' len') (vl xs off' len') (i + 1) : Nat) : Int)) (part len (vl xs off len - vl xs off' len') (i + 1)) ((i + 1 : Nat) : Int)) := by
  have main := miStepS vl rfl g t p off len p' off' len' xs hn h1 h2 i hi (-((cy (vl xs off len - vl xs off' len') (vl xs off' len') i : Nat) : Int)) (part len (vl xs off len - vl xs off' len') i) (part_len (Nat.le_of_lt hi))
  have e : vl xs off len = (vl xs off len - vl xs off' len') + (vl xs off' len') := by omega
  have ed : dg (vl xs off len) i = dg ((vl xs off len - vl xs off' len') + (vl xs off' len')) i := by rw [← e]
  rw [getN h1 hi, ed, difW_eq, wrap32I, Nat.zero_add] at main
  have h5 := dg_lt (vl xs off len - vl xs off' len') i
  have e1 : ((dg (vl xs off len - vl xs off' len') i : Nat) : Int) - 4294967296 * ((cy (vl xs off len - vl xs off' len') (vl xs off' len') (i + 1) : Nat) : Int) = ((dg (vl xs off len - vl xs off' len') i : Nat) : Int) + 4294967296 * (-((cy (vl xs off len - vl xs off' len') (vl xs off' len') (i + 1) : Nat) : Int)) := by omega
  have e2 : (((dg (vl xs off len - vl xs off' len') i : Nat) : Int) - 4294967296 * ((cy (vl xs off len - vl xs off' len') (vl xs off' len') (i + 1) : Nat) : Int)) % 4294967296 = ((dg (vl xs off len - vl xs off' len') i : Nat) : Int) := by omega
  have e3 : Int.fdiv (((dg (vl xs off len - vl xs off' len') i : Nat) : Int) - 4294967296 * ((cy (vl xs off len - vl xs off' len') (vl xs off' len') (i + 1) : Nat) : Int)) 4294967296 = -((cy (vl xs off len - vl xs off' len') (vl xs off' len') (i + 1) : Nat) : Int) := by
    rw [Int.fdiv_eq_ediv_of_nonneg _ (by decide)]
    omega
  rw [e2, e3, part_set hi] at main
  exact main
theorem miExitS (g : Nat) (t p off len p' off' len' : Nat) (xs : List Int) (v : Int) (out : List Int) :
    RunTo (env (r1 vl)) g [] 1 (loopOf (theB 0 (bodyOf Tryd.f98))) (miXS t p off len p' off' len' xs v out (len : Nat)) (.exit 0) (miXS t p off len p' off' len' xs v out (len : Nat)) := by
  refine goR (r1_ok rfl g) ⟨[14], []⟩ [] 90 [false] [0, 1, 5, 6, 7] (by kernel_rfl) trivial (X := miXS t p off len p' off' len' xs v out (len : Nat)) (cs := [.tt (decide ((len : Int) < (len : Nat)) == false)]) (by kernel_rfl) (by kernel_rfl) ⟨?_, trivial⟩ rfl
  show (decide ((len : Int) < (len : Nat)) == false) = true
  simp
theorem miLoopS (g : Nat) (t p off len p' off' len' : Nat) (xs : List Int) (hn : len ≤ 1000000) (h1 : isN xs off len) (h2 : isN xs off' len') (hle : vl xs off' len' ≤ vl xs off len) :
    RunTo (env (r1 vl)) g [] 1 (.block 0 (theB 0 (bodyOf Tryd.f98))) (miXS t p off len p' off' len' xs 0 (List.replicate len 0) 0) .normal
      (miXS t p off len p' off' len' xs (-((cy (vl xs off len - vl xs off' len') (vl xs off' len') len : Nat) : Int)) (digs len (vl xs off len - vl xs off' len')) (len : Nat)) := by
  have e : theB 0 (bodyOf Tryd.f98) = .loop (loopOf (theB 0 (bodyOf Tryd.f98))) := by kernel_rfl
  rw [e]
  have key := RunTo.loop (E := env (r1 vl)) (g := g) (ds := []) (n0 := 1) (c := loopOf (theB 0 (bodyOf Tryd.f98))) (fun i => i ≤ len) (fun i => len - i)
    (fun i => miXS t p off len p' off' len' xs (-((cy (vl xs off len - vl xs off' len') (vl xs off' len') i : Nat) : Int)) (part len (vl xs off len - vl xs off' len') i) (i : Nat))
    (fun _ => (.exit 0, miXS t p off len p' off' len' xs (-((cy (vl xs off len - vl xs off' len') (vl xs off' len') len : Nat) : Int)) (digs len (vl xs off len - vl xs off' len')) (len : Nat))) ?_ 0 (Nat.zero_le _)
  · simp only [cy_zero, part_zero] at key
    exact RunTo.block key
  · intro i hi
    rcases Nat.lt_or_ge i len with h | h
    · exact .inl ⟨i + 1, by omega, by omega, rfl, miRoundS g t p off len p' off' len' xs hn h1 h2 hle i h⟩
    · have : len = i := by omega
      subst this
      refine .inr ⟨(by intro h; cases h), ?_⟩
      rw [part_all]
      exact miExitS g t p off len p' off' len' xs _ _
def fDif (vf : List Int → Nat → Nat → Nat) (df : Nat → Nat → List Int) : Spec := fun args H =>
  match args, H with
  | [.bsl 0 p off len, .bsl 1 p' off' len'], [.buf t .u32 xs, .buf t' .u32 xs'] =>
    some (.bsl 2 0 0 len, [.buf t .u32 xs, .buf t' .u32 xs', .buf 56 .u32 (df len (vf xs off len - vf xs' off' len'))], [.le len 100000, .prop (isN xs off len), .prop (isN xs' off' len'), .prop (vl xs' off' len' ≤ vl xs off len)])
  | [.bsl 0 p off len, .bsl 0 p' off' len'], [.buf t .u32 xs] =>
    some (.bsl 1 0 0 len, [.buf t .u32 xs, .buf 56 .u32 (df len (vf xs off len - vf xs off' len'))], [.le len 100000, .prop (isN xs off len), .prop (isN xs off' len'), .prop (vl xs off' len' ≤ vl xs off len)])
  | _, _ => none
theorem okDif {vf : List Int → Nat → Nat → Nat} {df : Nat → Nat → List Int} (hv : vf = vl) (hd : df = digs) (g : Nat) : Ok g 98 (fDif vf df) := by
  subst hv hd
  intro args H r H' c h hc L w hs hg hok
  unfold fDif at h
  split at h
  case h_3 => cases h
  · rename_i p off len p' off' len' t xs t' xs'
    simp only [Option.some.injEq, Prod.mk.injEq] at h
    obtain ⟨rfl, rfl, rfl⟩ := h
    obtain ⟨k1, h1, h2, hle, _⟩ := hc
    have k1 : len ≤ 100000 := k1
    have hB : sumsOk (env (r1 vl)) g [] 2 (bodyOf Tryd.f98) [toldB 2 0 [0, 1, 5, 6, 7] (miXD t p off len t' p' off' len' xs xs' 0 (List.replicate len 0) 0) .normal
        (miXD t p off len t' p' off' len' xs xs' (-((cy (vl xs off len - vl xs' off' len') (vl xs' off' len') len : Nat) : Int)) (digs len (vl xs off len - vl xs' off' len')) (len : Nat))] :=
      ⟨toldB_ok (id := 0) (miLoopD g t p off len t' p' off' len' xs xs' (by omega) h1 h2 hle), trivial⟩
    generalize digs len (vl xs off len - vl xs' off' len') = out at *
    generalize (-((cy (vl xs off len - vl xs' off' len') (vl xs' off' len') len : Nat) : Int)) = v at *
    refine goB (H := [.buf t .u32 xs, .buf t' .u32 xs']) (r1_ok rfl g) ⟨[], [1]⟩ _ 90 [] Tryd.func98 (by kernel_rfl) (by kernel_rfl) (by kernel_rfl) hB (r0 := .bsl 2 0 0 len) (H0 := [.buf t .u32 xs, .buf t' .u32 xs', .buf 56 .u32 out])
      (cs := [.ile 0 (len : Nat), .ile (len : Nat) (len : Nat), .ile (len : Nat) 1099511627776,
        .prop (AlikeS (miXD t p off len t' p' off' len' xs xs' 0 (List.replicate len 0) 0) (miXD t p off len t' p' off' len' xs xs' 0 (List.replicate len 0) 0))]) (by kernel_rfl) (by kernel_rfl) ?_ (Alike.refl _) rfl hs hg hok
    refine ⟨?_, Int.le_refl _, ?_, AlikeS.refl _, trivial⟩
    · exact Int.natCast_nonneg len
    · show (len : Int) ≤ (1099511627776 : Int); omega
  · rename_i p off len p' off' len' t xs
    simp only [Option.some.injEq, Prod.mk.injEq] at h
    obtain ⟨rfl, rfl, rfl⟩ := h
    obtain ⟨k1, h1, h2, hle, _⟩ := hc
    have k1 : len ≤ 100000 := k1
    have hB : sumsOk (env (r1 vl)) g [] 1 (bodyOf Tryd.f98) [toldB 1 0 [0, 1, 5, 6, 7] (miXS t p off len p' off' len' xs 0 (List.replicate len 0) 0) .normal
        (miXS t p off len p' off' len' xs (-((cy (vl xs off len - vl xs off' len') (vl xs off' len') len : Nat) : Int)) (digs len (vl xs off len - vl xs off' len')) (len : Nat))] :=
      ⟨toldB_ok (id := 0) (miLoopS g t p off len p' off' len' xs (by omega) h1 h2 hle), trivial⟩
    generalize digs len (vl xs off len - vl xs off' len') = out at *
    generalize (-((cy (vl xs off len - vl xs off' len') (vl xs off' len') len : Nat) : Int)) = v at *
    refine goB (H := [.buf t .u32 xs]) (r1_ok rfl g) ⟨[], [1]⟩ _ 90 [] Tryd.func98 (by kernel_rfl) (by kernel_rfl) (by kernel_rfl) hB (r0 := .bsl 1 0 0 len) (H0 := [.buf t .u32 xs, .buf 56 .u32 out])
      (cs := [.ile 0 (len : Nat), .ile (len : Nat) (len : Nat), .ile (len : Nat) 1099511627776,
        .prop (AlikeS (miXS t p off len p' off' len' xs 0 (List.replicate len 0) 0) (miXS t p off len p' off' len' xs 0 (List.replicate len 0) 0))]) (by kernel_rfl) (by kernel_rfl) ?_ (Alike.refl _) rfl hs hg hok
    refine ⟨?_, Int.le_refl _, ?_, AlikeS.refl _, trivial⟩
    · exact Int.natCast_nonneg len
    · show (len : Int) ≤ (1099511627776 : Int); omega
end Go.Am.Sl
namespace Go.Am.Sl
open Go.Am Go.Proofs
/- PRODUCTS OF ROWS OF DIGITS (printed by genR5.py) -/
/-- the low k digits of X, above them those of V -/
def mixL (N V X k : Nat) : List Int := digs k X ++ (digs N V).drop k
theorem mix_len {N V X k : Nat} (h : k ≤ N) : (mixL N V X k).length = N := by simp [mixL, digs_len]; omega
theorem mix_zero (N V X : Nat) : mixL N V X 0 = digs N V := by simp [mixL, digs]
theorem mix_get {N V X k : Nat} (h : k < N) : (mixL N V X k).getD k 0 = ((dg V k : Nat) : Int) := by
  unfold mixL
  rw [List.getD_eq_getElem?_getD, List.getElem?_append_right (by rw [digs_len]; exact Nat.le_refl _), digs_len, Nat.sub_self, List.getElem?_drop, Nat.add_zero, digs_get h]
  rfl
theorem digs_drop {N V k : Nat} (h : k < N) : (digs N V).drop k = ((dg V k : Nat) : Int) :: (digs N V).drop (k + 1) := by
  have hk : k < (digs N V).length := by rw [digs_len]; exact h
  rw [List.drop_eq_getElem_cons hk]
  congr 1
  have := digs_get (v := V) h
  rw [List.getElem?_eq_getElem hk] at this
  exact Option.some.inj this
theorem mix_set {N V X k : Nat} (h : k < N) : (mixL N V X k).set k ((dg X k : Nat) : Int) = mixL N V X (k + 1) := by
  unfold mixL
  rw [List.set_append_right _ _ (by rw [digs_len]; exact Nat.le_refl _), digs_len, Nat.sub_self, digs_drop h, digs_snoc, List.set_cons_zero, List.append_assoc]
  rfl
theorem dg_low {X Y k i : Nat} (h : i < k) : dg (X + 4294967296 ^ k * Y) i = dg X i := by
  unfold dg
  have e : 4294967296 ^ k = 4294967296 ^ i * (4294967296 * 4294967296 ^ (k - i - 1)) := by
    rw [← Nat.pow_succ', ← Nat.pow_add]; congr 1; omega
  rw [e, Nat.mul_assoc, Nat.add_mul_div_left _ _ (Nat.pow_pos (by decide)), Nat.mul_assoc, Nat.add_mul_mod_self_left]
theorem digs_low {X Y k : Nat} : digs k (X + 4294967296 ^ k * Y) = digs k X := by
  apply List.map_congr_left
  intro i hi
  rw [dg_low (List.mem_range.1 hi)]
theorem mix_low {N V X Y k : Nat} : mixL N V (X + 4294967296 ^ k * Y) k = mixL N V X k := by
  unfold mixL
  rw [digs_low]
theorem digs_high {N V X k : Nat} (h : k ≤ N) (e : X / 4294967296 ^ k = V / 4294967296 ^ k) : mixL N V X k = digs N X := by
  have e2 : (digs N V).drop k = (digs N X).drop k := by
    unfold digs
    rw [← List.map_drop, ← List.map_drop]
    apply List.map_congr_left
    intro i hi
    have hi : k ≤ i := by
      rw [List.range_eq_range', List.drop_range'] at hi
      obtain ⟨_, h2⟩ := List.mem_range'_1.1 hi
      have := (List.mem_range'_1.1 hi).1
      omega
    unfold dg
    have e3 : 4294967296 ^ i = 4294967296 ^ k * 4294967296 ^ (i - k) := by rw [← Nat.pow_add]; congr 1; omega
    rw [e3, ← Nat.div_div_eq_div_mul, ← Nat.div_div_eq_div_mul, e]
  have e4 : digs k X = (digs N X).take k := by
    unfold digs
    rw [← List.map_take, List.take_range, Nat.min_eq_left h]
  unfold mixL
  rw [e2, e4, List.take_append_drop]
/-- what the inner loop has, and what it carries -/
def xx (V a B i j : Nat) : Nat := V + 4294967296 ^ i * (a * (B % 4294967296 ^ j))
def cc (V a B i j : Nat) : Nat := xx V a B i j / 4294967296 ^ (i + j) - V / 4294967296 ^ (i + j)
theorem xx_zero (V a B i : Nat) : xx V a B i 0 = V := by unfold xx; rw [Nat.pow_zero, Nat.mod_one, Nat.mul_zero, Nat.mul_zero, Nat.add_zero]
theorem xx_succ (V a B i j : Nat) : xx V a B i (j + 1) = xx V a B i j + 4294967296 ^ (i + j) * (a * dg B j) := by
  unfold xx
  rw [mod_step, Nat.pow_add]
  grind
theorem cc_zero (V a B i : Nat) : cc V a B i 0 = 0 := by unfold cc; rw [xx_zero, Nat.sub_self]
theorem xx_ge (V a B i j : Nat) : V ≤ xx V a B i j := Nat.le_add_right _ _
theorem xx_div (V a B i j : Nat) : xx V a B i j / 4294967296 ^ (i + j) = V / 4294967296 ^ (i + j) + cc V a B i j := by
  have := Nat.div_le_div_right (c := 4294967296 ^ (i + j)) (xx_ge V a B i j)
  unfold cc
  omega
theorem cc_succ (V a B i j : Nat) : cc V a B i (j + 1) = (cc V a B i j + a * dg B j + dg V (i + j)) / 4294967296 := by
  have h := xx_div V a B i j
  have e1 : xx V a B i (j + 1) / 4294967296 ^ (i + (j + 1)) = (V / 4294967296 ^ (i + j) + cc V a B i j + a * dg B j) / 4294967296 := by
    rw [xx_succ, ← Nat.add_assoc, Nat.pow_succ, ← Nat.div_div_eq_div_mul, Nat.add_mul_div_left _ _ (Nat.pow_pos (by decide)), h]
  have e2 : V / 4294967296 ^ (i + (j + 1)) = V / 4294967296 ^ (i + j) / 4294967296 := by
    rw [← Nat.add_assoc, Nat.pow_succ, ← Nat.div_div_eq_div_mul]
  have e3 : dg V (i + j) = V / 4294967296 ^ (i + j) % 4294967296 := rfl
  show xx V a B i (j + 1) / 4294967296 ^ (i + (j + 1)) - V / 4294967296 ^ (i + (j + 1)) = _
  rw [e1, e2, e3]
  generalize V / 4294967296 ^ (i + j) = v
  generalize a * dg B j = m
  omega
theorem cc_dg (V a B i j : Nat) : dg (xx V a B i (j + 1)) (i + j) = (cc V a B i j + a * dg B j + dg V (i + j)) % 4294967296 := by
  have h := xx_div V a B i j
  have e3 : dg V (i + j) = V / 4294967296 ^ (i + j) % 4294967296 := rfl
  show xx V a B i (j + 1) / 4294967296 ^ (i + j) % 4294967296 = _
  rw [xx_succ, Nat.add_mul_div_left _ _ (Nat.pow_pos (by decide)), h, e3]
  generalize V / 4294967296 ^ (i + j) = v
  generalize a * dg B j = m
  omega
theorem cc_lt {V a B i : Nat} (ha : a < 4294967296) : ∀ j, cc V a B i j < 4294967296
  | 0 => by rw [cc_zero]; decide
  | j + 1 => by
    have ih := cc_lt (V := V) (B := B) (i := i) ha j
    rw [cc_succ]
    have h1 := dg_lt B j
    have h2 := dg_lt V (i + j)
    have h3 : a * dg B j ≤ 4294967295 * 4294967295 := Nat.mul_le_mul (by omega) (by omega)
    omega
/-- what the code reckons in a round -/
def mulW (c a b d : Int) : Int := IntKind.wrap .u64 (IntKind.wrap .u64 (c + IntKind.wrap .u64 (IntKind.wrap .u64 a * IntKind.wrap .u64 b)) + IntKind.wrap .u64 d)
theorem mulW_eq {c a b d : Nat} (hc : c < 4294967296) (ha : a < 4294967296) (hb : b < 4294967296) (hd : d < 4294967296) : mulW (c : Nat) (a : Nat) (b : Nat) (d : Nat) = ((c + a * b + d : Nat) : Int) := by
  have h3 : a * b ≤ 4294967295 * 4294967295 := Nat.mul_le_mul (by omega) (by omega)
  unfold mulW
  rw [wrap64 a (by omega), wrap64 b (by omega), wrap64 d (by omega)]
  have e1 : (a : Int) * (b : Int) = ((a * b : Nat) : Int) := (Int.natCast_mul a b).symm
  rw [e1, wrap64 _ (by omega)]
  have e2 : (c : Int) + ((a * b : Nat) : Int) = ((c + a * b : Nat) : Int) := (Int.natCast_add _ _).symm
  rw [e2, wrap64 _ (by omega)]
  have e3 : ((c + a * b : Nat) : Int) + (d : Int) = ((c + a * b + d : Nat) : Int) := (Int.natCast_add _ _).symm
  rw [e3, wrap64 _ (by omega)]
def muXD (t p off len t' p' off' len' : Nat) (xs xs' : List Int) (i : Int) (c : Int) (out : List Int) (j : Int) : Sta := ⟨frameOf 66 [(0, .bsl 0 p off len), (1, .bsl 1 p' off' len'), (5, .bsl 2 0 0 (len + len')), (6, .int .i64 i), (7, .int .u64 c), (8, .int .i64 j)], [.buf t .u32 xs, .buf t' .u32 xs', .buf 56 .u32 out]⟩
theorem muStepD (g : Nat) (t p off len t' p' off' len' : Nat) (xs xs' : List Int) (hn : len ≤ 100000) (hn' : len' ≤ 100000) (h1 : off + len ≤ xs.length) (h2 : off' + len' ≤ xs'.length) (i j : Nat) (hi : i < len) (hj : j < len') (c : Nat) (out : List Int) (ho : out.length = len + len') :
    RunTo (env []) g [] 2 (loopOf (theB 2 (bodyOf Tryd.f162))) (muXD t p off len t' p' off' len' xs xs' i c out j) .normal
      (muXD t p off len t' p' off' len' xs xs' i (Int.fdiv (mulW c (xs.getD (off + i) 0) (xs'.getD (off' + j) 0) (out.getD (0 + (i + j)) 0)) 4294967296) (out.set (0 + (i + j)) (IntKind.wrap .u32 (mulW c (xs.getD (off + i) 0) (xs'.getD (off' + j) 0) (out.getD (0 + (i + j)) 0)))) ((j + 1 : Nat) : Int)) := by
  have hw : IntKind.wrap .i64 ((j : Int) + 1) = ((j + 1 : Nat) : Int) := wrapi (j + 1) (by omega)
  have hw2 : IntKind.wrap .i64 ((i : Int) + (j : Int)) = ((i + j : Nat) : Int) := by rw [wrapI (by omega) (by omega)]; omega
  have c0 : (0 : Int) ≤ (i : Nat) := Int.natCast_nonneg _
  have c1 : ((i : Nat) : Int) < (len : Nat) := by omega
  have d0 : (0 : Int) ≤ (j : Nat) := Int.natCast_nonneg _
  have d1 : ((j : Nat) : Int) < (len' : Nat) := by omega
  have et : ((i + j : Nat) : Int).toNat = i + j := rfl
  refine goR (env_nil g) ⟨[24], [9, 10]⟩ [] 90 [true] [0, 1, 5, 6, 7, 8] (by kernel_rfl) trivial (X := muXD t p off len t' p' off' len' xs xs' i c out j)
    (Y0 := muXD t p off len t' p' off' len' xs xs' i (Int.fdiv (mulW c (xs.getD (off + i) 0) (xs'.getD (off' + j) 0) (out.getD (0 + (IntKind.wrap .i64 ((i : Int) + (j : Int))).toNat) 0)) 4294967296) (out.set (0 + (IntKind.wrap .i64 ((i : Int) + (j : Int))).toNat) (IntKind.wrap .u32 (mulW c (xs.getD (off + i) 0) (xs'.getD (off' + j) 0) (out.getD (0 + (IntKind.wrap .i64 ((i : Int) + (j : Int))).toNat) 0)))) (IntKind.wrap .i64 ((j : Int) + 1)))
    (cs := [.tt (decide ((j : Int) < (len' : Nat)) == true), .ile 0 (i : Nat), .ilt (i : Nat) (len : Nat), .le (off + len) xs.length, .lt (off + i) xs.length, .ile 0 (j : Nat), .ilt (j : Nat) (len' : Nat), .le (off' + len') xs'.length, .lt (off' + j) xs'.length,
      .ile 0 (IntKind.wrap .i64 ((i : Int) + (j : Int))), .ilt (IntKind.wrap .i64 ((i : Int) + (j : Int))) ((len + len' : Nat) : Int), .le (0 + (len + len')) out.length, .lt (0 + (IntKind.wrap .i64 ((i : Int) + (j : Int))).toNat) out.length,
      .ile 0 (IntKind.wrap .i64 ((i : Int) + (j : Int))), .ilt (IntKind.wrap .i64 ((i : Int) + (j : Int))) ((len + len' : Nat) : Int), .le (0 + (len + len')) out.length, .lt (0 + (IntKind.wrap .i64 ((i : Int) + (j : Int))).toNat) out.length])
    (by kernel_rfl) (by kernel_rfl) ?_ (by rw [hw, hw2, et])
  rw [hw2]
  have q0 : (0 : Int) ≤ ((i + j : Nat) : Int) := Int.natCast_nonneg _
  have q1 : ((i + j : Nat) : Int) < ((len + len' : Nat) : Int) := by omega
  have q2 : 0 + (len + len') ≤ out.length := by omega
  have q3 : 0 + ((i + j : Nat) : Int).toNat < out.length := by rw [et]; omega
  refine ⟨?_, c0, c1, h1, ?_, d0, d1, h2, ?_, q0, q1, q2, q3, q0, q1, q2, q3, trivial⟩
  · show (decide ((j : Int) < (len' : Nat)) == true) = true
    simp; omega
  · show off + i < xs.length; omega
  · show off' + j < xs'.length; omega
theorem muRoundD (g : Nat) (t p off len t' p' off' len' : Nat) (xs xs' : List Int) (hn : len ≤ 100000) (hn' : len' ≤ 100000) (h1 : isN xs off len) (h2 : isN xs' off' len') (V i j : Nat) (hi : i < len) (hj : j < len') :
    RunTo (env []) g [] 2 (loopOf (theB 2 (bodyOf Tryd.f162))) (muXD t p off len t' p' off' len' xs xs' i (cc V (dg (vl xs off len) i) (vl xs' off' len') i j : Nat) (mixL (len + len') V (xx V (dg (vl xs off len) i) (vl xs' off' len') i j) (i + j)) j) .normal
      (muXD t p off len t' p' off' len' xs xs' i (cc V (dg (vl xs off len) i) (vl xs' off' len') i (j + 1) : Nat) (mixL (len + len') V (xx V (dg (vl xs off len) i) (vl xs' off' len') i (j + 1)) (i + (j + 1))) ((j + 1 : Nat) : Int)) := by
  have main := muStepD g t p off len t' p' off' len' xs xs' hn hn' h1.1 h2.1 i j hi hj (cc V (dg (vl xs off len) i) (vl xs' off' len') i j) (mixL (len + len') V (xx V (dg (vl xs off len) i) (vl xs' off' len') i j) (i + j)) (mix_len (by omega))
  rw [getN h1 hi, getN h2 hj, Nat.zero_add, mix_get (by omega), mulW_eq (cc_lt (dg_lt _ _) j) (dg_lt _ _) (dg_lt _ _) (dg_lt _ _), wrap32, ← cc_dg] at main
  have e1 : mixL (len + len') V (xx V (dg (vl xs off len) i) (vl xs' off' len') i j) (i + j) = mixL (len + len') V (xx V (dg (vl xs off len) i) (vl xs' off' len') i (j + 1)) (i + j) := by rw [xx_succ, mix_low]
  have e2 : Int.fdiv ((cc V (dg (vl xs off len) i) (vl xs' off' len') i j + dg (vl xs off len) i * dg (vl xs' off' len') j + dg V (i + j) : Nat) : Int) 4294967296 = ((cc V (dg (vl xs off len) i) (vl xs' off' len') i (j + 1) : Nat) : Int) := by
    rw [cc_succ, Int.fdiv_eq_ediv_of_nonneg _ (by decide)]
    omega
  rw [e2] at main
  have e3 : (mixL (len + len') V (xx V (dg (vl xs off len) i) (vl xs' off' len') i j) (i + j)).set (i + j) ((dg (xx V (dg (vl xs off len) i) (vl xs' off' len') i (j + 1)) (i + j) : Nat) : Int) = mixL (len + len') V (xx V (dg (vl xs off len) i) (vl xs' off' len') i (j + 1)) (i + (j + 1)) := by
    rw [e1, mix_set (by omega)]
    rfl
  rw [e3] at main
  exact main
theorem muExitD (g : Nat) (t p off len t' p' off' len' : Nat) (xs xs' : List Int) (i c : Int) (out : List Int) :
    RunTo (env []) g [] 2 (loopOf (theB 2 (bodyOf Tryd.f162))) (muXD t p off len t' p' off' len' xs xs' i c out (len' : Nat)) (.exit 2) (muXD t p off len t' p' off' len' xs xs' i c out (len' : Nat)) := by
  refine goR (env_nil g) ⟨[24], []⟩ [] 90 [false] [0, 1, 5, 6, 7, 8] (by kernel_rfl) trivial (X := muXD t p off len t' p' off' len' xs xs' i c out (len' : Nat)) (cs := [.tt (decide ((len' : Int) < (len' : Nat)) == false)]) (by kernel_rfl) (by kernel_rfl) ⟨?_, trivial⟩ rfl
  show (decide ((len' : Int) < (len' : Nat)) == false) = true
  simp
theorem muInnerD (g : Nat) (t p off len t' p' off' len' : Nat) (xs xs' : List Int) (hn : len ≤ 100000) (hn' : len' ≤ 100000) (h1 : isN xs off len) (h2 : isN xs' off' len') (V i : Nat) (hi : i < len) :
    RunTo (env []) g [] 2 (.block 2 (theB 2 (bodyOf Tryd.f162))) (muXD t p off len t' p' off' len' xs xs' i 0 (digs (len + len') V) 0) .normal
      (muXD t p off len t' p' off' len' xs xs' i (cc V (dg (vl xs off len) i) (vl xs' off' len') i len' : Nat) (mixL (len + len') V (xx V (dg (vl xs off len) i) (vl xs' off' len') i len') (i + len')) (len' : Nat)) := by
  have e : theB 2 (bodyOf Tryd.f162) = .loop (loopOf (theB 2 (bodyOf Tryd.f162))) := by kernel_rfl
  rw [e]
  have key := RunTo.loop (E := env []) (g := g) (ds := []) (n0 := 2) (c := loopOf (theB 2 (bodyOf Tryd.f162))) (fun j => j ≤ len') (fun j => len' - j)
    (fun j => muXD t p off len t' p' off' len' xs xs' i (cc V (dg (vl xs off len) i) (vl xs' off' len') i j : Nat) (mixL (len + len') V (xx V (dg (vl xs off len) i) (vl xs' off' len') i j) (i + j)) (j : Nat))
    (fun _ => (.exit 2, muXD t p off len t' p' off' len' xs xs' i (cc V (dg (vl xs off len) i) (vl xs' off' len') i len' : Nat) (mixL (len + len') V (xx V (dg (vl xs off len) i) (vl xs' off' len') i len') (i + len')) (len' : Nat))) ?_ 0 (Nat.zero_le _)
  · have e0 : mixL (len + len') V (xx V (dg (vl xs off len) i) (vl xs' off' len') i 0) (i + 0) = digs (len + len') V := by
      rw [xx_zero]
      exact digs_high (by omega) rfl
    simp only [cc_zero, e0] at key
    exact RunTo.block key
  · intro j hj
    rcases Nat.lt_or_ge j len' with h | h
    · exact .inl ⟨j + 1, by omega, by omega, rfl, muRoundD g t p off len t' p' off' len' xs xs' hn hn' h1 h2 V i j hi h⟩
    · have : len' = j := by omega
      subst this
      exact .inr ⟨(by intro h; cases h), muExitD g t p off len t' p' off' len' xs xs' _ _ _⟩
def muXS (t p off len p' off' len' : Nat) (xs : List Int) (i : Int) (c : Int) (out : List Int) (j : Int) : Sta := ⟨frameOf 66 [(0, .bsl 0 p off len), (1, .bsl 0 p' off' len'), (5, .bsl 1 0 0 (len + len')), (6, .int .i64 i), (7, .int .u64 c), (8, .int .i64 j)], [.buf t .u32 xs, .buf 56 .u32 out]⟩
theorem muStepS (g : Nat) (t p off len p' off' len' : Nat) (xs : List Int) (hn : len ≤ 100000) (hn' : len' ≤ 100000) (h1 : off + len ≤ xs.length) (h2 : off' + len' ≤ xs.length) (i j : Nat) (hi : i < len) (hj : j < len') (c : Nat) (out : List Int) (ho : out.length = len + len') :
    RunTo (env []) g [] 1 (loopOf (theB 2 (bodyOf Tryd.f162))) (muXS t p off len p' off' len' xs i c out j) .normal
      (muXS t p off len p' off' len' xs i (Int.fdiv (mulW c (xs.getD (off + i) 0) (xs.getD (off' + j) 0) (out.getD (0 + (i + j)) 0)) 4294967296) (out.set (0 + (i + j)) (IntKind.wrap .u32 (mulW c (xs.getD (off + i) 0) (xs.getD (off' + j) 0) (out.getD (0 + (i + j)) 0)))) ((j + 1 : Nat) : Int)) := by
  have hw : IntKind.wrap .i64 ((j : Int) + 1) = ((j + 1 : Nat) : Int) := wrapi (j + 1) (by omega)
  have hw2 : IntKind.wrap .i64 ((i : Int) + (j : Int)) = ((i + j : Nat) : Int) := by rw [wrapI (by omega) (by omega)]; omega
  have c0 : (0 : Int) ≤ (i : Nat) := Int.natCast_nonneg _
  have c1 : ((i : Nat) : Int) < (len : Nat) := by omega
  have d0 : (0 : Int) ≤ (j : Nat) := Int.natCast_nonneg _
  have d1 : ((j : Nat) : Int) < (len' : Nat) := by omega
  have et : ((i + j : Nat) : Int).toNat = i + j := rfl
  refine goR (env_nil g) ⟨[24], [9, 10]⟩ [] 90 [true] [0, 1, 5, 6, 7, 8] (by kernel_rfl) trivial (X := muXS t p off len p' off' len' xs i c out j)
    (Y0 := muXS t p off len p' off' len' xs i (Int.fdiv (mulW c (xs.getD (off + i) 0) (xs.getD (off' + j) 0) (out.getD (0 + (IntKind.wrap .i64 ((i : Int) + (j : Int))).toNat) 0)) 4294967296) (out.set (0 + (IntKind.wrap .i64 ((i : Int) + (j : Int))).toNat) (IntKind.wrap .u32 (mulW c (xs.getD (off + i) 0) (xs.getD (off' + j) 0) (out.getD (0 + (IntKind.wrap .i64 ((i : Int) + (j : Int))).toNat) 0)))) (IntKind.wrap .i64 ((j : Int) + 1)))
    (cs := [.tt (decide ((j : Int) < (len' : Nat)) == true), .ile 0 (i : Nat), .ilt (i : Nat) (len : Nat), .le (off + len) xs.length, .lt (off + i) xs.length, .ile 0 (j : Nat), .ilt (j : Nat) (len' : Nat), .le (off' + len') xs.length, .lt (off' + j) xs.length,
      .ile 0 (IntKind.wrap .i64 ((i : Int) + (j : Int))), .ilt (IntKind.wrap .i64 ((i : Int) + (j : Int))) ((len + len' : Nat) : Int), .le (0 + (len + len')) out.length, .lt (0 + (IntKind.wrap .i64 ((i : Int) + (j : Int))).toNat) out.length,
      .ile 0 (IntKind.wrap .i64 ((i : Int) + (j : Int))), .ilt (IntKind.wrap .i64 ((i : Int) + (j : Int))) ((len + len' : Nat) : Int), .le (0 + (len + len')) out.length, .lt (0 + (IntKind.wrap .i64 ((i : Int) + (j : Int))).toNat) out.length])
    (by kernel_rfl) (by kernel_rfl) ?_ (by rw [hw, hw2, et])
  rw [hw2]
  have q0 : (0 : Int) ≤ ((i + j : Nat) : Int) := Int.natCast_nonneg _
  have q1 : ((i + j : Nat) : Int) < ((len + len' : Nat) : Int) := by omega
  have q2 : 0 + (len + len') ≤ out.length := by omega
  have q3 : 0 + ((i + j : Nat) : Int).toNat < out.length := by rw [et]; omega
  refine ⟨?_, c0, c1, h1, ?_, d0, d1, h2, ?_, q0, q1, q2, q3, q0, q1, q2, q3, trivial⟩
  · show (decide ((j : Int) < (len' : Nat)) == true) = true
    simp; omega
  · show off + i < xs.length; omega
  · show off' + j < xs.length; omega
theorem muRoundS (g : Nat) (t p off len p' off' len' : Nat) (xs : List Int) (hn : len ≤ 100000) (hn' : len' ≤ 100000) (h1 : isN xs off len) (h2 : isN xs off' len') (V i j : Nat) (hi : i < len) (hj : j < len') :
    RunTo (env []) g [] 1 (loopOf (theB 2 (bodyOf Tryd.f162))) (muXS t p off len p' off' len' xs i (cc V (dg (vl xs off len) i) (vl xs off' len') i j : Nat) (mixL (len + len') V (xx V (dg (vl xs off len) i) (vl xs off' len') i j) (i + j)) j) .normal
      (muXS t p off len p' off' len' xs i (cc V (dg (vl xs off len) i) (vl xs off' len') i (j + 1) : Nat) (mixL (len + len') V (xx V (dg (vl xs off len) i) (vl xs off' len') i (j + 1)) (i + (j + 1))) ((j + 1 : Nat) : Int)) := by
  have main := muStepS g t p off len p' off' len' xs hn hn' h1.1 h2.1 i j hi hj (cc V (dg (vl xs off len) i) (vl xs off' len') i j) (mixL (len + len') V (xx V (dg (vl xs off len) i) (vl xs off' len') i j) (i + j)) (mix_len (by omega))
  rw [getN h1 hi, getN h2 hj, Nat.zero_add, mix_get (by omega), mulW_eq (cc_lt (dg_lt _ _) j) (dg_lt _ _) (dg_lt _ _) (dg_lt _ _), wrap32, ← cc_dg] at main
  have e1 : mixL (len + len') V (xx V (dg (vl xs off len) i) (vl xs off' len') i j) (i + j) = mixL (len + len') V (xx V (dg (vl xs off len) i) (vl xs off' len') i (j + 1)) (i + j) := by rw [xx_succ, mix_low]
  have e2 : Int.fdiv ((cc V (dg (vl xs off len) i) (vl xs off' len') i j + dg (vl xs off len) i * dg (vl xs off' len') j + dg V (i + j) : Nat) : Int) 4294967296 = ((cc V (dg (vl xs off len) i) (vl xs off' len') i (j + 1) : Nat) : Int) := by
    rw [cc_succ, Int.fdiv_eq_ediv_of_nonneg _ (by decide)]
    omega
  rw [e2] at main
  have e3 : (mixL (len + len') V (xx V (dg (vl xs off len) i) (vl xs off' len') i j) (i + j)).set (i + j) ((dg (xx V (dg (vl xs off len) i) (vl xs off' len') i (j + 1)) (i + j) : Nat) : Int) = mixL (len + len') V (xx V (dg (vl xs off len) i) (vl xs off' len') i (j + 1)) (i + (j + 1)) := by
    rw [e1, mix_set (by omega)]
    rfl
  rw [e3] at main
  exact main
theorem muExitS (g : Nat) (t p off len p' off' len' : Nat) (xs : List Int) (i c : Int) (out : List Int) :
    RunTo (env []) g [] 1 (loopOf (theB 2 (bodyOf Tryd.f162))) (muXS t p off len p' off' len' xs i c out (len' : Nat)) (.exit 2) (muXS t p off len p' off' len' xs i c out (len' : Nat)) := by
  refine goR (env_nil g) ⟨[24], []⟩ [] 90 [false] [0, 1, 5, 6, 7, 8] (by kernel_rfl) trivial (X := muXS t p off len p' off' len' xs i c out (len' : Nat)) (cs := [.tt (decide ((len' : Int) < (len' : Nat)) == false)]) (by kernel_rfl) (by kernel_rfl) ⟨?_, trivial⟩ rfl
  show (decide ((len' : Int) < (len' : Nat)) == false) = true
  simp
theorem muInnerS (g : Nat) (t p off len p' off' len' : Nat) (xs : List Int) (hn : len ≤ 100000) (hn' : len' ≤ 100000) (h1 : isN xs off len) (h2 : isN xs off' len') (V i : Nat) (hi : i < len) :
    RunTo (env []) g [] 1 (.block 2 (theB 2 (bodyOf Tryd.f162))) (muXS t p off len p' off' len' xs i 0 (digs (len + len') V) 0) .normal
      (muXS t p off len p' off' len' xs i (cc V (dg (vl xs off len) i) (vl xs off' len') i len' : Nat) (mixL (len + len') V (xx V (dg (vl xs off len) i) (vl xs off' len') i len') (i + len')) (len' : Nat)) := by
  have e : theB 2 (bodyOf Tryd.f162) = .loop (loopOf (theB 2 (bodyOf Tryd.f162))) := by kernel_rfl
  rw [e]
  have key := RunTo.loop (E := env []) (g := g) (ds := []) (n0 := 1) (c := loopOf (theB 2 (bodyOf Tryd.f162))) (fun j => j ≤ len') (fun j => len' - j)
    (fun j => muXS t p off len p' off' len' xs i (cc V (dg (vl xs off len) i) (vl xs off' len') i j : Nat) (mixL (len + len') V (xx V (dg (vl xs off len) i) (vl xs off' len') i j) (i + j)) (j : Nat))
    (fun _ => (.exit 2, muXS t p off len p' off' len' xs i (cc V (dg (vl xs off len) i) (vl xs off' len') i len' : Nat) (mixL (len + len') V (xx V (dg (vl xs off len) i) (vl xs off' len') i len') (i + len')) (len' : Nat))) ?_ 0 (Nat.zero_le _)
  · have e0 : mixL (len + len') V (xx V (dg (vl xs off len) i) (vl xs off' len') i 0) (i + 0) = digs (len + len') V := by
      rw [xx_zero]
      exact digs_high (by omega) rfl
    simp only [cc_zero, e0] at key
    exact RunTo.block key
  · intro j hj
    rcases Nat.lt_or_ge j len' with h | h
    · exact .inl ⟨j + 1, by omega, by omega, rfl, muRoundS g t p off len p' off' len' xs hn hn' h1 h2 V i j hi h⟩
    · have : len' = j := by omega
      subst this
      exact .inr ⟨(by intro h; cases h), muExitS g t p off len p' off' len' xs _ _ _⟩
end Go.Am.Sl
namespace Go.Am.Sl
open Go.Am Go.Proofs
/- PRODUCTS OF ROWS OF DIGITS: the outer loop (printed by genR6.py) -/
theorem vl_lt {xs : List Int} {off len : Nat} (h : isN xs off len) : vl xs off len < 4294967296 ^ len := by
  have := valL_lt _ h.2
  rwa [cut_len h.1] at this
/-- the last step of a round -/
theorem mu_last {A B n m i : Nat} (hB : B < 4294967296 ^ m) (hi : i < n) :
    (mixL (n + m) (A % 4294967296 ^ i * B) (xx (A % 4294967296 ^ i * B) (dg A i) B i m) (i + m)).set (i + m) ((cc (A % 4294967296 ^ i * B) (dg A i) B i m % 4294967296 : Nat) : Int) = digs (n + m) (A % 4294967296 ^ (i + 1) * B) := by
  have hp : 0 < 4294967296 ^ (i + m) := Nat.pow_pos (by decide)
  have hV : A % 4294967296 ^ i * B < 4294967296 ^ (i + m) := by
    rw [Nat.pow_add]
    have h1 := Nat.mod_lt A (show 0 < 4294967296 ^ i from Nat.pow_pos (by decide))
    exact Nat.mul_lt_mul_of_le_of_lt (Nat.le_of_lt h1) hB (Nat.pow_pos (by decide))
  have hX : xx (A % 4294967296 ^ i * B) (dg A i) B i m = A % 4294967296 ^ (i + 1) * B := by
    unfold xx
    rw [Nat.mod_eq_of_lt hB, mod_step]
    grind
  have h0 : A % 4294967296 ^ i * B / 4294967296 ^ (i + m) = 0 := Nat.div_eq_of_lt hV
  have hd := xx_div (A % 4294967296 ^ i * B) (dg A i) B i m
  rw [h0, Nat.zero_add] at hd
  have e : cc (A % 4294967296 ^ i * B) (dg A i) B i m % 4294967296 = dg (xx (A % 4294967296 ^ i * B) (dg A i) B i m) (i + m) := by
    rw [← hd]
    rfl
  rw [e, mix_set (by omega), hX]
  refine digs_high (by omega) ?_
  rw [← hX, show 4294967296 ^ (i + m + 1) = 4294967296 ^ (i + m) * 4294967296 from Nat.pow_succ _ _, ← Nat.div_div_eq_div_mul, ← Nat.div_div_eq_div_mul, h0, hd, Nat.zero_div]
  exact Nat.div_eq_of_lt (cc_lt (dg_lt A i) m)
theorem digs_zero (n : Nat) : digs n 0 = List.replicate n 0 := by
  apply List.ext_getElem?
  intro i
  rcases Nat.lt_or_ge i n with h | h
  · rw [digs_get h, List.getElem?_replicate, if_pos h]
    unfold dg
    rw [Nat.zero_div]
    rfl
  · rw [List.getElem?_eq_none (by rw [digs_len]; exact h), List.getElem?_eq_none (by rw [List.length_replicate]; exact h)]
def ouXD (t p off len t' p' off' len' : Nat) (xs xs' : List Int) (i : Int) (out : List Int) : Sta := ⟨frameOf 66 [(0, .bsl 0 p off len), (1, .bsl 1 p' off' len'), (5, .bsl 2 0 0 (len + len')), (6, .int .i64 i)], [.buf t .u32 xs, .buf t' .u32 xs', .buf 56 .u32 out]⟩
theorem ouRoundD (g : Nat) (t p off len t' p' off' len' : Nat) (xs xs' : List Int) (hn : len ≤ 100000) (hn' : len' ≤ 100000) (h1 : isN xs off len) (h2 : isN xs' off' len') (i : Nat) (hi : i < len) :
    RunTo (env []) g [] 2 (loopOf (theB 0 (bodyOf Tryd.f162))) (ouXD t p off len t' p' off' len' xs xs' i (digs (len + len') (vl xs off len % 4294967296 ^ i * vl xs' off' len'))) .normal
      (ouXD t p off len t' p' off' len' xs xs' ((i + 1 : Nat) : Int) (digs (len + len') (vl xs off len % 4294967296 ^ (i + 1) * vl xs' off' len'))) := by
  rw [← mu_last (n := len) (vl_lt h2) hi]
  generalize hV : vl xs off len % 4294967296 ^ i * vl xs' off' len' = V
  have hin := muInnerD g t p off len t' p' off' len' xs xs' hn hn' h1 h2 V i hi
  have e : theB 2 (loopOf (theB 0 (bodyOf Tryd.f162))) = theB 2 (bodyOf Tryd.f162) := by kernel_rfl
  rw [← e] at hin
  have hcl := cc_lt (V := V) (a := dg (vl xs off len) i) (B := vl xs' off' len') (i := i) (dg_lt _ _) len'
  have hml := mix_len (N := len + len') (V := V) (X := xx V (dg (vl xs off len) i) (vl xs' off' len') i len') (k := i + len') (by omega)
  generalize cc V (dg (vl xs off len) i) (vl xs' off' len') i len' = c at *
  generalize mixL (len + len') V (xx V (dg (vl xs off len) i) (vl xs' off' len') i len') (i + len') = mx at *
  generalize digs (len + len') V = dv at *
  have hw : IntKind.wrap .i64 ((i : Int) + 1) = ((i + 1 : Nat) : Int) := wrapi (i + 1) (by omega)
  have hw2 : IntKind.wrap .i64 ((i : Int) + (len' : Int)) = ((i + len' : Nat) : Int) := by rw [wrapI (by omega) (by omega)]; omega
  have et : ((i + len' : Nat) : Int).toNat = i + len' := rfl
  have hB : sumsOk (env []) g [] 2 (loopOf (theB 0 (bodyOf Tryd.f162))) [toldB 2 2 [0, 1, 5, 6, 7, 8] (muXD t p off len t' p' off' len' xs xs' i 0 dv 0) .normal (muXD t p off len t' p' off' len' xs xs' i (c : Nat) mx (len' : Nat))] := ⟨toldB_ok (id := 2) hin, trivial⟩
  refine goR (env_nil g) ⟨[18], [12]⟩ _ 90 [true] [0, 1, 5, 6] (by kernel_rfl) hB (X := ouXD t p off len t' p' off' len' xs xs' i dv)
    (Y0 := ouXD t p off len t' p' off' len' xs xs' (IntKind.wrap .i64 ((i : Int) + 1)) (mx.set (0 + (IntKind.wrap .i64 ((i : Int) + (len' : Int))).toNat) (IntKind.wrap .u32 (c : Nat))))
    (cs := [.tt (decide ((i : Int) < (len : Nat)) == true), .prop (AlikeS (muXD t p off len t' p' off' len' xs xs' i 0 dv 0) (muXD t p off len t' p' off' len' xs xs' i 0 dv 0)), .ile 0 (IntKind.wrap .i64 ((i : Int) + (len' : Int))), .ilt (IntKind.wrap .i64 ((i : Int) + (len' : Int))) ((len + len' : Nat) : Int), .le (0 + (len + len')) mx.length, .lt (0 + (IntKind.wrap .i64 ((i : Int) + (len' : Int))).toNat) mx.length])
    (by kernel_rfl) (by kernel_rfl) ?_ (by rw [hw, hw2, et, wrap32, Nat.zero_add])
  rw [hw2]
  refine ⟨?_, AlikeS.refl _, Int.natCast_nonneg _, ?_, ?_, ?_, trivial⟩
  · show (decide ((i : Int) < (len : Nat)) == true) = true
    simp; omega
  · show ((i + len' : Nat) : Int) < ((len + len' : Nat) : Int); omega
  · show 0 + (len + len') ≤ mx.length; omega
  · show 0 + ((i + len' : Nat) : Int).toNat < mx.length; rw [et]; omega
theorem ouExitD (g : Nat) (t p off len t' p' off' len' : Nat) (xs xs' : List Int) (out : List Int) :
    RunTo (env []) g [] 2 (loopOf (theB 0 (bodyOf Tryd.f162))) (ouXD t p off len t' p' off' len' xs xs' (len : Nat) out) (.exit 0) (ouXD t p off len t' p' off' len' xs xs' (len : Nat) out) := by
  refine goR (env_nil g) ⟨[18], []⟩ [] 90 [false] [0, 1, 5, 6] (by kernel_rfl) trivial (X := ouXD t p off len t' p' off' len' xs xs' (len : Nat) out) (cs := [.tt (decide ((len : Int) < (len : Nat)) == false)]) (by kernel_rfl) (by kernel_rfl) ⟨?_, trivial⟩ rfl
  show (decide ((len : Int) < (len : Nat)) == false) = true
  simp
theorem ouLoopD (g : Nat) (t p off len t' p' off' len' : Nat) (xs xs' : List Int) (hn : len ≤ 100000) (hn' : len' ≤ 100000) (h1 : isN xs off len) (h2 : isN xs' off' len') :
    RunTo (env []) g [] 2 (.block 0 (theB 0 (bodyOf Tryd.f162))) (ouXD t p off len t' p' off' len' xs xs' 0 (List.replicate (len + len') 0)) .normal
      (ouXD t p off len t' p' off' len' xs xs' (len : Nat) (digs (len + len') (vl xs off len * vl xs' off' len'))) := by
  have e : theB 0 (bodyOf Tryd.f162) = .loop (loopOf (theB 0 (bodyOf Tryd.f162))) := by kernel_rfl
  rw [e]
  have key := RunTo.loop (E := env []) (g := g) (ds := []) (n0 := 2) (c := loopOf (theB 0 (bodyOf Tryd.f162))) (fun i => i ≤ len) (fun i => len - i)
    (fun i => ouXD t p off len t' p' off' len' xs xs' (i : Nat) (digs (len + len') (vl xs off len % 4294967296 ^ i * vl xs' off' len')))
    (fun _ => (.exit 0, ouXD t p off len t' p' off' len' xs xs' (len : Nat) (digs (len + len') (vl xs off len * vl xs' off' len')))) ?_ 0 (Nat.zero_le _)
  · have e0 : digs (len + len') (vl xs off len % 4294967296 ^ 0 * vl xs' off' len') = List.replicate (len + len') 0 := by
      rw [Nat.pow_zero, Nat.mod_one, Nat.zero_mul]
      exact digs_zero _
    simp only [e0] at key
    exact RunTo.block key
  · intro i hi
    rcases Nat.lt_or_ge i len with h | h
    · exact .inl ⟨i + 1, by omega, by omega, rfl, ouRoundD g t p off len t' p' off' len' xs xs' hn hn' h1 h2 i h⟩
    · have : len = i := by omega
      subst this
      refine .inr ⟨(by intro h; cases h), ?_⟩
      rw [Nat.mod_eq_of_lt (vl_lt h1)]
      exact ouExitD g t p off len t' p' off' len' xs xs' _
def ouXS (t p off len p' off' len' : Nat) (xs : List Int) (i : Int) (out : List Int) : Sta := ⟨frameOf 66 [(0, .bsl 0 p off len), (1, .bsl 0 p' off' len'), (5, .bsl 1 0 0 (len + len')), (6, .int .i64 i)], [.buf t .u32 xs, .buf 56 .u32 out]⟩
theorem ouRoundS (g : Nat) (t p off len p' off' len' : Nat) (xs : List Int) (hn : len ≤ 100000) (hn' : len' ≤ 100000) (h1 : isN xs off len) (h2 : isN xs off' len') (i : Nat) (hi : i < len) :
    RunTo (env []) g [] 1 (loopOf (theB 0 (bodyOf Tryd.f162))) (ouXS t p off len p' off' len' xs i (digs (len + len') (vl xs off len % 4294967296 ^ i * vl xs off' len'))) .normal
      (ouXS t p off len p' off' len' xs ((i + 1 : Nat) : Int) (digs (len + len') (vl xs off len % 4294967296 ^ (i + 1) * vl xs off' len'))) := by
  rw [← mu_last (n := len) (vl_lt h2) hi]
  generalize hV : vl xs off len % 4294967296 ^ i * vl xs off' len' = V
  have hin := muInnerS g t p off len p' off' len' xs hn hn' h1 h2 V i hi
  have e : theB 2 (loopOf (theB 0 (bodyOf Tryd.f162))) = theB 2 (bodyOf Tryd.f162) := by kernel_rfl
  rw [← e] at hin
  have hcl := cc_lt (V := V) (a := dg (vl xs off len) i) (B := vl xs off' len') (i := i) (dg_lt _ _) len'
  have hml := mix_len (N := len + len') (V := V) (X := xx V (dg (vl xs off len) i) (vl xs off' len') i len') (k := i + len') (by omega)
  generalize cc V (dg (vl xs off len) i) (vl xs off' len') i len' = c at *
  generalize mixL (len + len') V (xx V (dg (vl xs off len) i) (vl xs off' len') i len') (i + len') = mx at *
  generalize digs (len + len') V = dv at *
  have hw : IntKind.wrap .i64 ((i : Int) + 1) = ((i + 1 : Nat) : Int) := wrapi (i + 1) (by omega)
  have hw2 : IntKind.wrap .i64 ((i : Int) + (len' : Int)) = ((i + len' : Nat) : Int) := by rw [wrapI (by omega) (by omega)]; omega
  have et : ((i + len' : Nat) : Int).toNat = i + len' := rfl
  have hB : sumsOk (env []) g [] 1 (loopOf (theB 0 (bodyOf Tryd.f162))) [toldB 1 2 [0, 1, 5, 6, 7, 8] (muXS t p off len p' off' len' xs i 0 dv 0) .normal (muXS t p off len p' off' len' xs i (c : Nat) mx (len' : Nat))] := ⟨toldB_ok (id := 2) hin, trivial⟩
  refine goR (env_nil g) ⟨[18], [12]⟩ _ 90 [true] [0, 1, 5, 6] (by kernel_rfl) hB (X := ouXS t p off len p' off' len' xs i dv)
    (Y0 := ouXS t p off len p' off' len' xs (IntKind.wrap .i64 ((i : Int) + 1)) (mx.set (0 + (IntKind.wrap .i64 ((i : Int) + (len' : Int))).toNat) (IntKind.wrap .u32 (c : Nat))))
    (cs := [.tt (decide ((i : Int) < (len : Nat)) == true), .prop (AlikeS (muXS t p off len p' off' len' xs i 0 dv 0) (muXS t p off len p' off' len' xs i 0 dv 0)), .ile 0 (IntKind.wrap .i64 ((i : Int) + (len' : Int))), .ilt (IntKind.wrap .i64 ((i : Int) + (len' : Int))) ((len + len' : Nat) : Int), .le (0 + (len + len')) mx.length, .lt (0 + (IntKind.wrap .i64 ((i : Int) + (len' : Int))).toNat) mx.length])
    (by kernel_rfl) (by kernel_rfl) ?_ (by rw [hw, hw2, et, wrap32, Nat.zero_add])
  rw [hw2]
  refine ⟨?_, AlikeS.refl _, Int.natCast_nonneg _, ?_, ?_, ?_, trivial⟩
  · show (decide ((i : Int) < (len : Nat)) == true) = true
    simp; omega
  · show ((i + len' : Nat) : Int) < ((len + len' : Nat) : Int); omega
  · show 0 + (len + len') ≤ mx.length; omega
  · show 0 + ((i + len' : Nat) : Int).toNat < mx.length; rw [et]; omega
theorem ouExitS (g : Nat) (t p off len p' off' len' : Nat) (xs : List Int) (out : List Int) :
    RunTo (env []) g [] 1 (loopOf (theB 0 (bodyOf Tryd.f162))) (ouXS t p off len p' off' len' xs (len : Nat) out) (.exit 0) (ouXS t p off len p' off' len' xs (len : Nat) out) := by
  refine goR (env_nil g) ⟨[18], []⟩ [] 90 [false] [0, 1, 5, 6] (by kernel_rfl) trivial (X := ouXS t p off len p' off' len' xs (len : Nat) out) (cs := [.tt (decide ((len : Int) < (len : Nat)) == false)]) (by kernel_rfl) (by kernel_rfl) ⟨?_, trivial⟩ rfl
  show (decide ((len : Int) < (len : Nat)) == false) = true
  simp
theorem ouLoopS (g : Nat) (t p off len p' off' len' : Nat) (xs : List Int) (hn : len ≤ 100000) (hn' : len' ≤ 100000) (h1 : isN xs off len) (h2 : isN xs off' len') :
    RunTo (env []) g [] 1 (.block 0 (theB 0 (bodyOf Tryd.f162))) (ouXS t p off len p' off' len' xs 0 (List.replicate (len + len') 0)) .normal
      (ouXS t p off len p' off' len' xs (len : Nat) (digs (len + len') (vl xs off len * vl xs off' len'))) := by
  have e : theB 0 (bodyOf Tryd.f162) = .loop (loopOf (theB 0 (bodyOf Tryd.f162))) := by kernel_rfl
  rw [e]
  have key := RunTo.loop (E := env []) (g := g) (ds := []) (n0 := 1) (c := loopOf (theB 0 (bodyOf Tryd.f162))) (fun i => i ≤ len) (fun i => len - i)
    (fun i => ouXS t p off len p' off' len' xs (i : Nat) (digs (len + len') (vl xs off len % 4294967296 ^ i * vl xs off' len')))
    (fun _ => (.exit 0, ouXS t p off len p' off' len' xs (len : Nat) (digs (len + len') (vl xs off len * vl xs off' len')))) ?_ 0 (Nat.zero_le _)
  · have e0 : digs (len + len') (vl xs off len % 4294967296 ^ 0 * vl xs off' len') = List.replicate (len + len') 0 := by
      rw [Nat.pow_zero, Nat.mod_one, Nat.zero_mul]
      exact digs_zero _
    simp only [e0] at key
    exact RunTo.block key
  · intro i hi
    rcases Nat.lt_or_ge i len with h | h
    · exact .inl ⟨i + 1, by omega, by omega, rfl, ouRoundS g t p off len p' off' len' xs hn hn' h1 h2 i h⟩
    · have : len = i := by omega
      subst this
      refine .inr ⟨(by intro h; cases h), ?_⟩
      rw [Nat.mod_eq_of_lt (vl_lt h1)]
      exact ouExitS g t p off len p' off' len' xs _
def fMulN (vf : List Int → Nat → Nat → Nat) (df : Nat → Nat → List Int) : Spec := fun args H =>
  match args, H with
  | [.bsl 0 p off len, .bsl 1 p' off' len'], [.buf t .u32 xs, .buf t' .u32 xs'] =>
    some (.bsl 2 0 0 (len + len'), [.buf t .u32 xs, .buf t' .u32 xs', .buf 56 .u32 (df (len + len') (vf xs off len * vf xs' off' len'))], [.le len 100000, .le len' 100000, .prop (isN xs off len), .prop (isN xs' off' len')])
  | [.bsl 0 p off len, .bsl 0 p' off' len'], [.buf t .u32 xs] =>
    some (.bsl 1 0 0 (len + len'), [.buf t .u32 xs, .buf 56 .u32 (df (len + len') (vf xs off len * vf xs off' len'))], [.le len 100000, .le len' 100000, .prop (isN xs off len), .prop (isN xs off' len')])
  | _, _ => none
theorem okMulN {vf : List Int → Nat → Nat → Nat} {df : Nat → Nat → List Int} (hv : vf = vl) (hd : df = digs) (g : Nat) : Ok g 162 (fMulN vf df) := by
  subst hv hd
  intro args H r H' c h hc L w hs hg hok
  unfold fMulN at h
  split at h
  case h_3 => cases h
  · rename_i p off len p' off' len' t xs t' xs'
    simp only [Option.some.injEq, Prod.mk.injEq] at h
    obtain ⟨rfl, rfl, rfl⟩ := h
    obtain ⟨k1, k2, h1, h2, _⟩ := hc
    have k1 : len ≤ 100000 := k1
    have k2 : len' ≤ 100000 := k2
    have hw : IntKind.wrap .i64 ((len : Int) + (len' : Int)) = ((len + len' : Nat) : Int) := by rw [wrapI (by omega) (by omega)]; omega
    have hB : sumsOk (env []) g [] 2 (bodyOf Tryd.f162) [toldB 2 0 [0, 1, 5, 6] (ouXD t p off len t' p' off' len' xs xs' 0 (List.replicate (len + len') 0)) .normal (ouXD t p off len t' p' off' len' xs xs' (len : Nat) (digs (len + len') (vl xs off len * vl xs' off' len')))] :=
      ⟨toldB_ok (id := 0) (ouLoopD g t p off len t' p' off' len' xs xs' k1 k2 h1 h2), trivial⟩
    generalize digs (len + len') (vl xs off len * vl xs' off' len') = out at *
    refine goB (H := [.buf t .u32 xs, .buf t' .u32 xs']) (env_nil g) ⟨[], [1]⟩ _ 90 [] Tryd.func162 (by kernel_rfl) (by kernel_rfl) (by kernel_rfl) hB (r0 := .bsl 2 0 0 (len + len')) (H0 := [.buf t .u32 xs, .buf t' .u32 xs', .buf 56 .u32 out])
      (cs := [.ile 0 (IntKind.wrap .i64 ((len : Int) + (len' : Int))), .ile (IntKind.wrap .i64 ((len : Int) + (len' : Int))) (IntKind.wrap .i64 ((len : Int) + (len' : Int))), .ile (IntKind.wrap .i64 ((len : Int) + (len' : Int))) 1099511627776,
        .prop (AlikeS ⟨frameOf 66 [(0, .bsl 0 p off len), (1, .bsl 1 p' off' len'), (5, .bsl 2 0 0 (IntKind.wrap .i64 ((len : Int) + (len' : Int))).toNat), (6, .int .i64 0)], [.buf t .u32 xs, .buf t' .u32 xs', .buf 56 .u32 (List.replicate (IntKind.wrap .i64 ((len : Int) + (len' : Int))).toNat 0)]⟩
          (ouXD t p off len t' p' off' len' xs xs' 0 (List.replicate (len + len') 0)))]) (by kernel_rfl) (by kernel_rfl) ?_ (Alike.refl _) rfl hs hg hok
    rw [hw]
    refine ⟨?_, Int.le_refl _, ?_, AlikeS.refl _, trivial⟩
    · exact Int.natCast_nonneg _
    · show ((len + len' : Nat) : Int) ≤ (1099511627776 : Int); omega
  · rename_i p off len p' off' len' t xs
    simp only [Option.some.injEq, Prod.mk.injEq] at h
    obtain ⟨rfl, rfl, rfl⟩ := h
    obtain ⟨k1, k2, h1, h2, _⟩ := hc
    have k1 : len ≤ 100000 := k1
    have k2 : len' ≤ 100000 := k2
    have hw : IntKind.wrap .i64 ((len : Int) + (len' : Int)) = ((len + len' : Nat) : Int) := by rw [wrapI (by omega) (by omega)]; omega
    have hB : sumsOk (env []) g [] 1 (bodyOf Tryd.f162) [toldB 1 0 [0, 1, 5, 6] (ouXS t p off len p' off' len' xs 0 (List.replicate (len + len') 0)) .normal (ouXS t p off len p' off' len' xs (len : Nat) (digs (len + len') (vl xs off len * vl xs off' len')))] :=
      ⟨toldB_ok (id := 0) (ouLoopS g t p off len p' off' len' xs k1 k2 h1 h2), trivial⟩
    generalize digs (len + len') (vl xs off len * vl xs off' len') = out at *
    refine goB (H := [.buf t .u32 xs]) (env_nil g) ⟨[], [1]⟩ _ 90 [] Tryd.func162 (by kernel_rfl) (by kernel_rfl) (by kernel_rfl) hB (r0 := .bsl 1 0 0 (len + len')) (H0 := [.buf t .u32 xs, .buf 56 .u32 out])
      (cs := [.ile 0 (IntKind.wrap .i64 ((len : Int) + (len' : Int))), .ile (IntKind.wrap .i64 ((len : Int) + (len' : Int))) (IntKind.wrap .i64 ((len : Int) + (len' : Int))), .ile (IntKind.wrap .i64 ((len : Int) + (len' : Int))) 1099511627776,
        .prop (AlikeS ⟨frameOf 66 [(0, .bsl 0 p off len), (1, .bsl 0 p' off' len'), (5, .bsl 1 0 0 (IntKind.wrap .i64 ((len : Int) + (len' : Int))).toNat), (6, .int .i64 0)], [.buf t .u32 xs, .buf 56 .u32 (List.replicate (IntKind.wrap .i64 ((len : Int) + (len' : Int))).toNat 0)]⟩
          (ouXS t p off len p' off' len' xs 0 (List.replicate (len + len') 0)))]) (by kernel_rfl) (by kernel_rfl) ?_ (Alike.refl _) rfl hs hg hok
    rw [hw]
    refine ⟨?_, Int.le_refl _, ?_, AlikeS.refl _, trivial⟩
    · exact Int.natCast_nonneg _
    · show ((len + len' : Nat) : Int) ≤ (1099511627776 : Int); omega
end Go.Am.Sl
