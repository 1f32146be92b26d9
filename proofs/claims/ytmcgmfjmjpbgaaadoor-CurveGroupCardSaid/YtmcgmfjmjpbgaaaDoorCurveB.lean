/- Part of the proof: CurveB. -/
import Derived.Test.YtmcgmfjmjpbgaaaDoorCurveA
import Derived.Test.YtmcgmfjmjpbgaaaDoorMathC
import Derived.Test.YtmcgmfjmjpbgaaaDoorMeetA
set_option linter.unusedVariables false
set_option maxRecDepth 100000
namespace Go.Am.Sl
open Go.Am Go.Proofs Kr Gp Fe
/- NUMBERS MODULO 2^255 - 19 -/
theorem pk0 : Pk 0 = p25 := rfl
theorem rg_iff {x : Int} {a : Fin p25} : Rf p25 x a ↔ (p25 : Int) ∣ x - (a.val : Int) := Iff.rfl
theorem rg_val (a : Fin p25) : Rf p25 (a.val : Int) a := ⟨0, by simp⟩
theorem rg_nat {n : Nat} (h : n < p25) : Rf p25 (n : Int) ⟨n, h⟩ := rg_val ⟨n, h⟩
theorem rg_mod {x : Int} {a : Fin p25} (h : Rf p25 x a) : x % (p25 : Nat) = (a.val : Int) := by
  have h1 := Int.emod_emod_of_dvd
  have h2 : (x - (a.val : Int)) % (p25 : Int) = 0 := Int.emod_eq_zero_of_dvd h
  have h3 : x % (p25 : Int) = (a.val : Int) % (p25 : Int) := Int.emod_eq_emod_iff_emod_sub_eq_zero.2 h2
  have h4 : (a.val : Int) % (p25 : Int) = (a.val : Int) := Int.emod_eq_of_lt (Int.natCast_nonneg _) (by have := a.isLt; omega)
  exact h3.trans h4
theorem rg_toNat {x : Int} {a : Fin p25} (h : Rf p25 x a) : (x % (Pk 0 : Nat)).toNat = a.val := by
  rw [pk0, rg_mod h]
  rfl
theorem rg_same {x : Int} {a b : Fin p25} (h : Rf p25 x a) (h' : Rf p25 x b) : a = b := by
  have h1 := rg_mod h
  have h2 := rg_mod h'
  apply Fin.ext
  omega
theorem rg_feq {x : Int} {a : Fin p25} (h : Rf p25 x a) : feq 0 x 0 = decide (a = 0) := by
  unfold feq
  rw [pk0]
  apply decide_eq_decide.2
  rw [Int.sub_zero, rg_mod h]
  constructor
  · intro h0
    apply Fin.ext
    have : a.val = 0 := by omega
    rw [this]
    rfl
  · rintro rfl
    rfl
theorem rg_feq2 {x y : Int} {a b : Fin p25} (h : Rf p25 x a) (h' : Rf p25 y b) (e : a = b) : feq 0 x y = true := by
  subst e
  unfold feq
  rw [pk0]
  apply decide_eq_true
  have h1 := rg_mod h
  have h2 := rg_mod h'
  exact Int.emod_eq_emod_iff_emod_sub_eq_zero.1 (h1.trans h2.symm)
theorem rg_mul {x y : Int} {a b : Fin p25} (h : Rf p25 x a) (h' : Rf p25 y b) : Rf p25 (x * y) (a * b) := (int_fin p25).mul h h'
theorem rg_add {x y : Int} {a b : Fin p25} (h : Rf p25 x a) (h' : Rf p25 y b) : Rf p25 (x + y) (a + b) := (int_fin p25).add h h'
theorem rg_sub {x y : Int} {a b : Fin p25} (h : Rf p25 x a) (h' : Rf p25 y b) : Rf p25 (x - y) (a - b) := (int_fin p25).sub h h'
theorem rg_one : Rf p25 1 1 := by
  have := rg_val 1
  exact this
theorem rg_zero : Rf p25 0 0 := by
  have := rg_val 0
  exact this
theorem rg_pow {x : Int} {a : Fin p25} (h : Rf p25 x a) : ∀ n, Rf p25 (x ^ n) (pw a n)
  | 0 => by rw [Int.pow_zero]; exact rg_one
  | n + 1 => by rw [Int.pow_succ]; exact rg_mul (rg_pow h n) h
theorem affJ_rf {x z : Int} {a c : Fin p25} (hx : Rf p25 x a) (hz : Rf p25 z c) : affJ x z = (a * fiv c).val := by
  unfold affJ powI
  have h := rg_toNat (rg_mul hx (rg_pow hz (p25 - 2)))
  rw [pk0] at h ⊢
  exact h

theorem alike_cong {x y : Int} (h : cong 0 x y) : Alike (.fe 0 x) (.fe 0 y) := by
  have e := mform_eq_iff.2 h
  refine ⟨fun L => ?_, fun L => ?_, fun _ h => h, rfl⟩
  · simp only [AVal.conc, e]
  · simp only [AVal.cells, e]
theorem rg_cong {x y : Int} {a : Fin p25} (h : Rf p25 x a) (h' : Rf p25 y a) : cong 0 x y := by
  unfold cong
  rw [pk0]
  exact Int.emod_eq_emod_iff_emod_sub_eq_zero.1 ((rg_mod h).trans (rg_mod h').symm)
theorem rg_feqB {x y : Int} {a b : Fin p25} (h : Rf p25 x a) (h' : Rf p25 y b) : feq 0 x y = decide (a = b) := by
  by_cases e : a = b
  · rw [rg_feq2 h h' e, decide_eq_true e]
  · rw [decide_eq_false e]
    unfold feq
    rw [pk0]
    apply decide_eq_false
    intro h2
    have h3 := Int.emod_eq_emod_iff_emod_sub_eq_zero.2 h2
    rw [rg_mod h, rg_mod h'] at h3
    exact e (Fin.ext (by omega))
theorem and1 (a : Nat) (ha : a < 2 ^ 64) : bitsI .and .u64 (a : Int) 1 = ((a % 2 : Nat) : Int) := by
  have : (BitVec.ofInt 64 (a : Int) &&& BitVec.ofInt 64 1).toNat = a % 2 := by
    rw [BitVec.toNat_and]
    have e1 : (BitVec.ofInt 64 (a : Int)).toNat = a := by
      rw [BitVec.toNat_ofInt]
      have : ((a : Int) % ((2 ^ 64 : Nat) : Int)).toNat = a % 2 ^ 64 := by norm_cast
      rw [this, Nat.mod_eq_of_lt ha]
    have e2 : (BitVec.ofInt 64 1).toNat = 2 ^ 1 - 1 := by decide
    rw [e1, e2, Nat.and_two_pow_sub_one_eq_mod]
  show IntKind.u64.wrap (((BitVec.ofInt 64 (a : Int) &&& BitVec.ofInt 64 1).toNat : Nat) : Int) = _
  rw [this, wrapu, Nat.mod_eq_of_lt]
  omega
theorem limb0_par (n : Nat) : bitsI .and .u64 (limb n 0) 1 = ((n % 2 : Nat) : Int) := by
  rw [limb_def, and1 _ (Nat.mod_lt _ (by decide))]
  have : n / 2 ^ (64 * 0) % 2 ^ 64 % 2 = n % 2 := by
    rw [Nat.mul_zero, Nat.pow_zero, Nat.div_one]
    exact Nat.mod_mod_of_dvd _ (by decide)
  rw [this]
theorem oddF_rf {x : Int} {a : Fin p25} (h : Rf p25 x a) : oddF x = decide (a.val % 2 = 1) := by
  unfold oddF
  rw [rg_toNat h, limb0_par]
  by_cases e : a.val % 2 = 1
  · rw [decide_eq_true e, e]; rfl
  · rw [decide_eq_false e]
    have : a.val % 2 = 0 := by omega
    rw [this]; rfl
theorem powI_rf {x : Int} {a : Fin p25} (h : Rf p25 x a) (n : Nat) : Rf p25 (powI x n) (pw a n) := rg_pow h n
theorem two_rf : Rf p25 2 (2 : Fin p25) := rg_val 2
theorem root1_rf {x : Int} {a : Fin p25} (h : Rf p25 x a) : Rf p25 (root1 x) (rt1 a) := by
  have h1 : Rf p25 (powI x sN) (pw a sN25) := powI_rf h sN
  have h2 : Rf p25 (powI 2 sM) (pw 2 sM25) := powI_rf two_rf sM
  unfold root1 rt1
  rw [rg_feqB (rg_mul h1 h1) h]
  split
  · rename_i e
    rw [decide_eq_true e]; exact h1
  · rename_i e
    rw [decide_eq_false e]; exact rg_mul h1 h2
theorem rootE_rf {x : Int} {a : Fin p25} (h : Rf p25 x a) : Rf p25 (rootE x) (rtF a) := by
  have h1 := root1_rf h
  unfold rootE rtF
  rw [oddF_rf h1]
  split
  · rename_i e
    rw [decide_eq_true e]; exact rg_sub rg_zero h1
  · rename_i e
    rw [decide_eq_false e]; exact h1
theorem rootOk_rf {x : Int} {b : Fin p25} (h : Rf p25 x (b * b)) : rootOk x := by
  have h1 := root1_rf h
  unfold rootOk
  exact rg_feq2 (rg_mul h1 h1) h (rt1_sq b)
theorem rootA_rf {d y : Int} {a : Fin p25 × Fin p25} (ha : Eon a) (hd : Rf p25 d d25) (hy : Rf p25 y a.2) : Rf p25 (rootA d y) (a.1 * a.1) := by
  rw [← ex_sq ha]
  unfold rootA
  exact rg_mul (rg_sub (rg_mul hy hy) rg_one) (powI_rf (rg_add (rg_mul hd (rg_mul hy hy)) rg_one) _)
/- THE CURVE, MADE -/
def dL : Int := 37095705934669439343138083508754565189542113879843219016388785533085940283555
def bxL : Int := 15112221349535400772501151409588531511454012693041857206046113283949847762202
def byL : Int := 46316835694926478169428394003475163141307993866256225615783033603165251855960
theorem dL_rf : Rf p25 dL d25 := rg_val d25
theorem bxL_rf : Rf p25 bxL bx25 := rg_val bx25
theorem byL_rf : Rf p25 byL by25 := rg_val by25
theorem inv0_rf {x : Int} {a : Fin p25} (h : Rf p25 x a) : Rf p25 (inv0 x) (fiv a) := powI_rf h _
theorem dM_rf : Rf p25 (-121665 * inv0 121666) d25 := by
  rw [← d25_def]
  refine rg_mul ?_ (inv0_rf (rg_val (121666 : Fin p25)))
  have := rg_sub rg_zero (rg_val (121665 : Fin p25))
  exact this
theorem byM_rf : Rf p25 (4 * inv0 5) by25 := by
  rw [← by25_def]
  exact rg_mul (rg_val (4 : Fin p25)) (inv0_rf (rg_val (5 : Fin p25)))
theorem bxM_rf : Rf p25 (rootE (rootA (-121665 * inv0 121666) (4 * inv0 5))) bx25 := by
  have h := rootE_rf (rootA_rf eB_on dM_rf byM_rf)
  have e : rtF (bx25 * bx25) = bx25 := by
    have := rt_x bx25
    rwa [if_neg (by rw [bx25_even]; decide)] at this
  rw [← e]
  exact h
def makeH : AHeap := [.obj 202 (cvE 1 dL bxL byL 1 (bxL * byL)), .obj 209 (.md 0)]
def fMakeE : Spec := fun args H =>
  match args, H with
  | [], [] => some (.ptr (some (0, 0)), makeH, [])
  | _, _ => none
def mkA : List Cond := [.ile 0 121665, .ilt 121665 (2 ^ 64), tt, .ile 0 121666, .ilt 121666 (2 ^ 64)]
def mkB : List Cond := [tt, .ile 0 4, .ilt 4 (2 ^ 64), .ile 0 5, .ilt 5 (2 ^ 64)]
theorem mkA_ok : All mkA := openC_ok (by rw [show openC mkA = [] by kernel_rfl]; trivial)
theorem mkB_ok : All mkB := openC_ok (by rw [show openC mkB = [] by kernel_rfl]; trivial)
theorem okMakeE (g : Nat) : Ok g 103 fMakeE := by
  intro args H r H' c h hc L w hs hg hok
  unfold fMakeE at h
  split at h
  case h_2 => cases h
  simp only [Option.some.injEq, Prod.mk.injEq] at h
  obtain ⟨rfl, rfl, rfl⟩ := h
  have e1 := dM_rf
  have e2 := byM_rf
  have e3 := bxM_rf
  have e4 := rootOk_rf (rootA_rf eB_on dM_rf byM_rf)
  obtain ⟨iv, hiv⟩ : ∃ iv, iv = inv0 := ⟨_, rfl⟩
  obtain ⟨ra, hra⟩ : ∃ ra, ra = rootA := ⟨_, rfl⟩
  obtain ⟨rf, hrf⟩ : ∃ rf, rf = rootE := ⟨_, rfl⟩
  rw [← hiv] at e1 e2 e3 e4
  rw [← hra] at e3 e4
  rw [← hrf] at e3
  have main := go (v6_ok hrf hra hiv g) noO 90 [] Tryd.func103 (by kernel_rfl) (by kernel_rfl) (args := []) (H := []) (r0 := .ptr (some (0, 0))) (r := .ptr (some (0, 0)))
    (H0 := [.obj 202 (cvE 1 (-121665 * iv 121666) (rf (ra (-121665 * iv 121666) (4 * iv 5))) (4 * iv 5) 1 (rf (ra (-121665 * iv 121666) (4 * iv 5)) * (4 * iv 5))), .obj 209 (.md 0)])
    (cs := mkA ++ (.prop (0 = 0) :: .prop (0 = 0) :: (mkB ++ [.prop (0 = 0), .prop (0 = 0), tt, .prop (rootOk (ra (-121665 * iv 121666) (4 * iv 5)))]))) (by kernel_rfl) (by kernel_rfl)
    (by exact (All_append _ _).2 ⟨mkA_ok, rfl, rfl, (All_append _ _).2 ⟨mkB_ok, rfl, rfl, rfl, e4, trivial⟩⟩) (Alike.refl _) rfl hs hg hok
  have hV : Alike (cvE 1 (-121665 * iv 121666) (rf (ra (-121665 * iv 121666) (4 * iv 5))) (4 * iv 5) 1 (rf (ra (-121665 * iv 121666) (4 * iv 5)) * (4 * iv 5))) (cvE 1 dL bxL byL 1 (bxL * byL)) :=
    alike_agg (show AlikeF [_, _, _] [_, _, _] from ⟨Alike.refl _, alike_cong (rg_cong e1 dL_rf), alike_agg (show AlikeF [_, _, _, _] [_, _, _, _] from ⟨alike_cong (rg_cong e3 bxL_rf), alike_cong (rg_cong e2 byL_rf), Alike.refl _, alike_cong (rg_cong (rg_mul e3 e2) (rg_mul bxL_rf byL_rf)), trivial⟩), trivial⟩)
  have hH : AlikeH [.obj 202 (cvE 1 (-121665 * iv 121666) (rf (ra (-121665 * iv 121666) (4 * iv 5))) (4 * iv 5) 1 (rf (ra (-121665 * iv 121666) (4 * iv 5)) * (4 * iv 5))), .obj 209 (.md 0)] makeH :=
    And.intro (And.intro rfl hV) (And.intro (AlikeB.refl _) trivial)
  exact main.mono fun e w' hb => hb.alikeH hH
end Go.Am.Sl
namespace Go.Am.Sl
open Go.Am Go.Proofs Kr Gp Fe
/- POINTS READ -/
def top3 (N : Nat) : Int := bitsI .and .u64 (limb N 3) 9223372036854775807
def nY (N : Nat) : Nat := num4 (limb N 0) (limb N 1) (limb N 2) (top3 N)
def oB (N : Nat) : Bool := Int.fdiv (limb N 3) 9223372036854775808 == 1
theorem and63 (a : Nat) (ha : a < 2 ^ 64) : bitsI .and .u64 (a : Int) 9223372036854775807 = ((a % 2 ^ 63 : Nat) : Int) := by
  have : (BitVec.ofInt 64 (a : Int) &&& BitVec.ofInt 64 9223372036854775807).toNat = a % 2 ^ 63 := by
    rw [BitVec.toNat_and]
    have e1 : (BitVec.ofInt 64 (a : Int)).toNat = a := by
      rw [BitVec.toNat_ofInt]
      have : ((a : Int) % ((2 ^ 64 : Nat) : Int)).toNat = a % 2 ^ 64 := by norm_cast
      rw [this, Nat.mod_eq_of_lt ha]
    have e2 : (BitVec.ofInt 64 9223372036854775807).toNat = 2 ^ 63 - 1 := by decide
    rw [e1, e2, Nat.and_two_pow_sub_one_eq_mod]
  show IntKind.u64.wrap (((BitVec.ofInt 64 (a : Int) &&& BitVec.ofInt 64 9223372036854775807).toNat : Nat) : Int) = _
  rw [this, wrapu, Nat.mod_eq_of_lt]
  omega
theorem top3_eq (N : Nat) : top3 N = ((N / 2 ^ 192 % 2 ^ 63 : Nat) : Int) := by
  unfold top3
  rw [limb_def, and63 _ (Nat.mod_lt _ (by decide))]
  have : N / 2 ^ (64 * 3) % 2 ^ 64 % 2 ^ 63 = N / 2 ^ 192 % 2 ^ 63 := Nat.mod_mod_of_dvd _ (by decide)
  rw [this]
theorem nY_eq (N : Nat) : nY N = N % 2 ^ 255 := by
  unfold nY
  rw [top3_eq]
  simp only [num4, limb_nat, toNat_cast]
  omega
theorem oB_eq (N : Nat) (h : N < 2 ^ 256) : oB N = decide (N / 2 ^ 255 = 1) := by
  unfold oB
  rw [limb_def]
  have e : Int.fdiv ((N / 2 ^ (64 * 3) % 2 ^ 64 : Nat) : Int) 9223372036854775808 = ((N / 2 ^ (64 * 3) % 2 ^ 64 / 2 ^ 63 : Nat) : Int) := by
    have : (9223372036854775808 : Int) = ((2 ^ 63 : Nat) : Int) := rfl
    rw [this, Int.fdiv_eq_ediv_of_nonneg _ (Int.natCast_nonneg _)]
    exact (Int.natCast_ediv _ _).symm
  rw [e]
  have e2 : N / 2 ^ (64 * 3) % 2 ^ 64 / 2 ^ 63 = N / 2 ^ 255 := by
    have hM : N / 2 ^ (64 * 3) < 2 ^ 64 := Nat.div_lt_of_lt_mul (by rw [← Nat.pow_add]; exact h)
    rw [Nat.mod_eq_of_lt hM, Nat.div_div_eq_div_mul, ← Nat.pow_add]
  rw [e2]
  by_cases h1 : N / 2 ^ 255 = 1
  · rw [decide_eq_true h1, h1]; rfl
  · rw [decide_eq_false h1]
    have : N / 2 ^ 255 = 0 := by omega
    rw [this]; rfl
def fRootEG (rf : Int → Int) (ra : Int → Int → Int) : Spec := fun args H =>
  match args, H with
  | [.ptr (some (0, 0)), .fe 0 y], [.obj t (.agg [.ptr (some (1, 0)), .fe 0 d, .agg [.fe 0 gx, .fe 0 gy, .fe 0 gz, .fe 0 gt]]), .obj t1 (.md 0)] =>
    some (.tuple [.fe 0 (rf (ra d y)), .bool true], cwE t t1 d gx gy gz gt, [.prop (rootOk (ra d y))])
  | _, _ => none
theorem okRootEG {rf : Int → Int} {ra : Int → Int → Int} (h : rf = rootE) (h' : ra = rootA) (g : Nat) : Ok g 181 (fRootEG rf ra) := by
  subst h'
  exact okRootE h g
noncomputable def v7 (rf : Int → Int) (ra : Int → Int → Int) : List (FuncId × Spec) := [(181, fRootEG rf ra), (182, fAffE)] ++ v2
theorem v7_ok {rf : Int → Int} {ra : Int → Int → Int} (h : rf = rootE) (h' : ra = rootA) (g : Nat) : EnvOk (env (v7 rf ra)) g := env_cons (okRootEG h h' g) (env_cons (okAffE g) (v2_ok g))
def rX (rf : Int → Int) (ra : Int → Int → Int) (d : Int) (N : Nat) : Int := bif oB N then 0 - rf (ra d (nY N : Nat)) else rf (ra d (nY N : Nat))
def rdE (d : Int) (zs : List Int) : P4 Int := ⟨rX rootE rootA d (le zs), (nY (le zs) : Nat), 1, rX rootE rootA d (le zs) * (nY (le zs) : Nat)⟩
def rdOkE (d : Int) (zs : List Int) : Prop :=
  zs.length = 32 ∧ nY (le zs) < Pk 0 ∧ rootOk (rootA d (nY (le zs) : Nat)) ∧ (oB (le zs) = true → feq 0 (rootE (rootA d (nY (le zs) : Nat))) 0 = false)
def fReadE : Spec := fun args H =>
  match args, H with
  | [.ptr (some (0, 0)), .bsl 1 p off len], [.obj t (.agg [.ptr (some (2, 0)), .fe 0 d, .agg [.fe 0 gx, .fe 0 gy, .fe 0 gz, .fe 0 gt]]), .buf tb .u8 xs, .obj t1 (.md 0)] =>
    some (.tuple [ptE (rdE d ((xs.drop off).take len)), .bool true], [.obj t (.agg [.ptr (some (2, 0)), .fe 0 d, .agg [.fe 0 gx, .fe 0 gy, .fe 0 gz, .fe 0 gt]]), .buf tb .u8 xs, .obj t1 (.md 0)],
      [.le (off + len) xs.length, .prop (isB xs), .prop (rdOkE d ((xs.drop off).take len))])
  | _, _ => none
def kY (N : Nat) : List Cond := [.ile 0 (limb N 0), .ilt (limb N 0) (2 ^ 64), .ile 0 (limb N 1), .ilt (limb N 1) (2 ^ 64), .ile 0 (limb N 2), .ilt (limb N 2) (2 ^ 64), .ile 0 (top3 N), .ilt (top3 N) (2 ^ 64)]
theorem kY_ok (N : Nat) : All (kY N) := by
  have h : (0 : Int) ≤ top3 N ∧ top3 N < 2 ^ 64 := by rw [top3_eq]; omega
  exact ⟨limb_nonneg _ _, limb_ltI _ _, limb_nonneg _ _, limb_ltI _ _, limb_nonneg _ _, limb_ltI _ _, h.1, h.2, trivial⟩
theorem okReadE (g : Nat) : Ok g 104 fReadE := by
  intro args H r H' c h hc L w hs hg hok
  unfold fReadE at h
  split at h
  case h_2 => cases h
  rename_i p off len t d gx gy gz gt tb xs t1
  simp only [Option.some.injEq, Prod.mk.injEq] at h
  obtain ⟨rfl, rfl, rfl⟩ := h
  obtain ⟨h1, h2, ⟨a1, a2, a3, a4⟩, _⟩ := hc
  have h1 : off + len ≤ xs.length := h1
  have hlen : ((xs.drop off).take len).length = len := by simp; omega
  rw [hlen] at a1
  subst a1
  unfold rdE
  obtain ⟨ra, hra⟩ : ∃ ra, ra = rootA := ⟨_, rfl⟩
  obtain ⟨rf, hrf⟩ : ∃ rf, rf = rootE := ⟨_, rfl⟩
  rw [← hra] at a3 a4 ⊢
  rw [← hrf] at a4 ⊢
  have hY : nY (le ((xs.drop off).take 32)) < 2 ^ 256 := by rw [nY_eq]; omega
  have hP : Pk 0 < 2 ^ 256 := Pk_lt 0
  have a2' : ((!decide (nY (le ((xs.drop off).take 32)) < Pk 0)) == false) = true := by rw [decide_eq_true a2]; rfl
  cases ho : oB (le ((xs.drop off).take 32)) with
  | true =>
    have e : rX rf ra d (le ((xs.drop off).take 32)) = 0 - rf (ra d (nY (le ((xs.drop off).take 32)) : Nat)) := by unfold rX; rw [ho]; rfl
    rw [e]
    exact go (v7_ok hrf hra g) ⟨[33, 52, 56, 59], []⟩ 90 [false, true, false, true] Tryd.func104 (by kernel_rfl) (by kernel_rfl)
      (cs := [.le (off + 32) xs.length, .lt 0 32, .le 32 32, .prop (isB xs)] ++ (kY (le ((xs.drop off).take 32)) ++ (.lt (nY (le ((xs.drop off).take 32))) (2 ^ 256) :: .lt (Pk 0) (2 ^ 256) :: .tt ((!decide (nY (le ((xs.drop off).take 32)) < Pk 0)) == false) ::
        (kY (le ((xs.drop off).take 32)) ++ [.lt (nY (le ((xs.drop off).take 32))) (2 ^ 256), .prop (rootOk (ra d (nY (le ((xs.drop off).take 32)) : Nat))), .tt (oB (le ((xs.drop off).take 32)) == true),
          .tt ((bif false then true else bif true then feq 0 (rf (ra d (nY (le ((xs.drop off).take 32)) : Nat))) 0 else false) == false), .tt (oB (le ((xs.drop off).take 32)) == true), tt])))) (by kernel_rfl) (by kernel_rfl)
      (by exact (All_append _ _).2 ⟨⟨h1, ck rfl, ck rfl, h2, trivial⟩, (All_append _ _).2 ⟨kY_ok _, hY, hP, a2', (All_append _ _).2 ⟨kY_ok _, hY, a3, (by show (_ == true) = true; rw [ho]; rfl), (by show (feq 0 _ 0 == false) = true; rw [a4 ho]; rfl), (by show (_ == true) = true; rw [ho]; rfl), rfl, trivial⟩⟩⟩) (Alike.refl _) rfl hs hg hok
  | false =>
    have e : rX rf ra d (le ((xs.drop off).take 32)) = rf (ra d (nY (le ((xs.drop off).take 32)) : Nat)) := by unfold rX; rw [ho]; rfl
    rw [e]
    exact go (v7_ok hrf hra g) ⟨[33, 52, 56, 59], []⟩ 90 [false, false, false, false] Tryd.func104 (by kernel_rfl) (by kernel_rfl)
      (cs := [.le (off + 32) xs.length, .lt 0 32, .le 32 32, .prop (isB xs)] ++ (kY (le ((xs.drop off).take 32)) ++ (.lt (nY (le ((xs.drop off).take 32))) (2 ^ 256) :: .lt (Pk 0) (2 ^ 256) :: .tt ((!decide (nY (le ((xs.drop off).take 32)) < Pk 0)) == false) ::
        (kY (le ((xs.drop off).take 32)) ++ [.lt (nY (le ((xs.drop off).take 32))) (2 ^ 256), .prop (rootOk (ra d (nY (le ((xs.drop off).take 32)) : Nat))), .tt (oB (le ((xs.drop off).take 32)) == false),
          tt, .tt (oB (le ((xs.drop off).take 32)) == false)])))) (by kernel_rfl) (by kernel_rfl)
      (by exact (All_append _ _).2 ⟨⟨h1, ck rfl, ck rfl, h2, trivial⟩, (All_append _ _).2 ⟨kY_ok _, hY, hP, a2', (All_append _ _).2 ⟨kY_ok _, hY, a3, (by show (_ == false) = true; rw [ho]; rfl), rfl, (by show (_ == false) = true; rw [ho]; rfl), trivial⟩⟩⟩) (Alike.refl _) rfl hs hg hok
/- THE PUBLIC FUNCTIONS -/
def sumE (xs ys : List Int) : List Int := bytE (eplus Ops.int dL (rdE dL xs) (rdE dL ys))
def mulE (zs xs : List Int) : List Int := bytE (tms (eplus Ops.int dL) eO (le zs) (rdE dL xs) 256 eO)
noncomputable def v8 : List (FuncId × Spec) := [(103, fMakeE), (104, fReadE), (105, fBytesE bytE), (106, fTimesE), (108, fPlusE)] ++ v2
theorem v8_ok (g : Nat) : EnvOk (env v8) g := env_cons (okMakeE g) (env_cons (okReadE g) (env_cons (okBytesE g) (env_cons (okTimesE g) (env_cons (okPlusE g) (v2_ok g)))))
def fPointE : Spec := fun args H =>
  match args, H with
  | [.bsl 0 p off len], [.buf tb .u8 xs] => some (.bool true, [.buf tb .u8 xs], [.le (off + len) xs.length, .prop (isB xs), .prop (rdOkE dL ((xs.drop off).take len))])
  | _, _ => none
theorem okPointE (g : Nat) : Ok g 35 fPointE := by
  intro args H r H' c h hc L w hs hg hok
  unfold fPointE at h
  split at h
  case h_2 => cases h
  rename_i p off len tb xs
  simp only [Option.some.injEq, Prod.mk.injEq] at h
  obtain ⟨rfl, rfl, rfl⟩ := h
  exact go (v8_ok g) noO 90 [] Tryd.func35 (by kernel_rfl) (by kernel_rfl) (cs := [.le (off + len) xs.length, .prop (isB xs), .prop (rdOkE dL ((xs.drop off).take len))]) (by kernel_rfl) (by kernel_rfl) hc (Alike.refl _) rfl hs hg hok
def fSumE (sum : List Int → List Int → List Int) : Spec := fun args H =>
  match args, H with
  | [.bsl 0 p off len, .bsl 1 p' off' len'], [.buf tb .u8 xs, .buf tb' .u8 xs'] =>
    some (.tuple [.bsl 2 0 0 32, .int .i64 0], [.buf tb .u8 xs, .buf tb' .u8 xs', .buf 5 .u8 (sum ((xs.drop off).take len) ((xs'.drop off').take len'))],
      [.le (off + len) xs.length, .prop (isB xs), .prop (rdOkE dL ((xs.drop off).take len)), .le (off' + len') xs'.length, .prop (isB xs'), .prop (rdOkE dL ((xs'.drop off').take len'))])
  | _, _ => none
theorem okSumE (g : Nat) : Ok g 34 (fSumE sumE) := by
  intro args H r H' c h hc L w hs hg hok
  unfold fSumE at h
  split at h
  case h_2 => cases h
  rename_i p off len p' off' len' tb xs tb' xs'
  simp only [Option.some.injEq, Prod.mk.injEq] at h
  obtain ⟨rfl, rfl, rfl⟩ := h
  exact go (v8_ok g) noO 90 [] Tryd.func34 (by kernel_rfl) (by kernel_rfl)
    (cs := [.le (off + len) xs.length, .prop (isB xs), .prop (rdOkE dL ((xs.drop off).take len)), .le (off' + len') xs'.length, .prop (isB xs'), .prop (rdOkE dL ((xs'.drop off').take len'))]) (by kernel_rfl) (by kernel_rfl) hc (Alike.refl _) rfl hs hg hok
def fMulE (mul : List Int → List Int → List Int) : Spec := fun args H =>
  match args, H with
  | [.bsl 0 p off len, .bsl 1 p' off' len'], [.buf tb .u8 xs, .buf tb' .u8 xs'] =>
    some (.tuple [.bsl 2 0 0 32, .int .i64 0], [.buf tb .u8 xs, .buf tb' .u8 xs', .buf 5 .u8 (mul ((xs.drop off).take len) ((xs'.drop off').take len'))],
      [.prop (len = 32), .le (off + len) xs.length, .prop (isB xs), .le (off' + len') xs'.length, .prop (isB xs'), .prop (rdOkE dL ((xs'.drop off').take len'))])
  | _, _ => none
theorem okMulE (g : Nat) : Ok g 32 (fMulE mulE) := by
  intro args H r H' c h hc L w hs hg hok
  unfold fMulE at h
  split at h
  case h_2 => cases h
  rename_i p off len p' off' len' tb xs tb' xs'
  simp only [Option.some.injEq, Prod.mk.injEq] at h
  obtain ⟨rfl, rfl, rfl⟩ := h
  obtain ⟨h1, h2, h3, h4, h5, h6, _⟩ := hc
  have h1 : len = 32 := h1
  subst h1
  exact go (v8_ok g) ⟨[11], []⟩ 90 [false] Tryd.func32 (by kernel_rfl) (by kernel_rfl)
    (cs := [.tt ((((32 : Nat) : Int) != 32) == false), .le (off' + len') xs'.length, .prop (isB xs'), .prop (rdOkE dL ((xs'.drop off').take len')), .le (off + 32) xs.length, .lt 0 32, .le 32 32, .prop (isB xs)]) (by kernel_rfl) (by kernel_rfl) ⟨rfl, h4, h5, h6, h2, ck rfl, ck rfl, h3, trivial⟩ (Alike.refl _) rfl hs hg hok
end Go.Am.Sl
namespace Go.Am.Sl
open Go.Am Go.Proofs Kr Gp Fe
/- LAW 7: ONE MORE -/
def lead : List Int → Nat
  | [] => 0
  | x :: l => if x = 255 then lead l + 1 else 0
def incL : List Int → List Int
  | [] => []
  | x :: l => if x = 255 then 0 :: incL l else (x + 1) :: l
theorem lead_le : ∀ l, lead l ≤ l.length
  | [] => Nat.le_refl _
  | x :: l => by
    unfold lead
    have := lead_le l
    split <;> simp only [List.length_cons] <;> omega
theorem lead_get : ∀ (l : List Int) (i : Nat), i < lead l → l.getD i 0 = 255
  | [], i, h => by simp [lead] at h
  | x :: l, i, h => by
    unfold lead at h
    split at h
    · rename_i e
      cases i with
      | zero => simp [e]
      | succ i => simpa using lead_get l i (by omega)
    · omega
theorem lead_at : ∀ (l : List Int), lead l < l.length → l.getD (lead l) 0 ≠ 255
  | [], h => by simp [lead] at h
  | x :: l, h => by
    unfold lead at h ⊢
    split at h
    · rename_i e
      rw [if_pos e]
      simp only [List.length_cons] at h
      simpa using lead_at l (by omega)
    · rename_i e
      rw [if_neg e]
      simpa using e
def cgL (ns : List Int) (i : Nat) : List Int := List.replicate i 0 ++ ns.drop i
theorem cgL_len {ns : List Int} {i : Nat} (h : i ≤ ns.length) : (cgL ns i).length = ns.length := by simp [cgL]; omega
theorem cgL_get {ns : List Int} {i : Nat} (h : i < ns.length) : (cgL ns i).getD i 0 = ns.getD i 0 := by
  unfold cgL
  rw [List.getD_eq_getElem?_getD, List.getElem?_append_right (by simp)]
  simp [List.getD_eq_getElem?_getD]
theorem cgL_set {ns : List Int} {i : Nat} (h : i < ns.length) : (cgL ns i).set i 0 = cgL ns (i + 1) := by
  unfold cgL
  rw [List.set_append_right _ _ (by simp), List.length_replicate, Nat.sub_self, List.drop_eq_getElem_cons h, List.set_cons_zero, List.replicate_succ', List.append_assoc]
  rfl
theorem inc_set : ∀ (ns : List Int), lead ns < ns.length → (cgL ns (lead ns)).set (lead ns) (ns.getD (lead ns) 0 + 1) = incL ns
  | [], h => by simp [lead] at h
  | x :: l, h => by
    unfold lead incL
    by_cases e : x = 255
    · rw [if_pos e, if_pos e]
      unfold lead at h
      rw [if_pos e] at h
      simp only [List.length_cons] at h
      have := inc_set l (by omega)
      rw [← this]
      simp [cgL, List.replicate_succ]
    · rw [if_neg e, if_neg e]
      simp [cgL]
theorem le_cons (x : Int) (l : List Int) : le (x :: l) = le l * 256 + x.toNat := by
  unfold le
  rw [List.reverse_cons, be_snoc]
theorem inc_le : ∀ (ns : List Int), isB ns → lead ns < ns.length → le (incL ns) = le ns + 1
  | [], _, h => by simp [lead] at h
  | x :: l, hb, h => by
    unfold incL
    have hx := hb x (by simp)
    by_cases e : x = 255
    · rw [if_pos e]
      unfold lead at h
      rw [if_pos e] at h
      simp only [List.length_cons] at h
      rw [le_cons, le_cons, inc_le l (fun y hy => hb y (by simp [hy])) (by omega), e]
      show (le l + 1) * 256 + 0 = le l * 256 + 255 + 1
      omega
    · rw [if_neg e, le_cons, le_cons]
      have : (x + 1).toNat = x.toNat + 1 := by omega
      omega
theorem isB_inc : ∀ (ns : List Int), isB ns → isB (incL ns)
  | [], _ => fun x h => by cases h
  | x :: l, hb => by
    have hx := hb x (by simp)
    have hl : isB l := fun y hy => hb y (by simp [hy])
    unfold incL
    split
    · intro y hy
      rcases List.mem_cons.1 hy with rfl | hy
      · omega
      · exact isB_inc l hl y hy
    · intro y hy
      rcases List.mem_cons.1 hy with rfl | hy
      · omega
      · exact hl y hy
theorem inc_len : ∀ ns : List Int, (incL ns).length = ns.length
  | [] => rfl
  | x :: l => by
    unfold incL
    split
    · simp [inc_len l]
    · simp
def cgX (l0 l1 l2 l3 l4 ns : List Int) (i : Int) : Sta :=
  ⟨frameOf 201 [(7, .bsl 0 0 0 32), (10, .bsl 1 0 0 32), (19, .bsl 2 0 0 32), (21, .bsl 3 0 0 32), (23, .bsl 4 0 0 32), (25, .bsl 5 0 0 32), (26, .int .i64 i)],
    [.buf 5 .u8 l0, .buf 5 .u8 l1, .buf 5 .u8 l2, .buf 5 .u8 l3, .buf 5 .u8 l4, .buf 5 .u8 ns]⟩
noncomputable def cgBody : Code := loopOf (theB 2 (bodyOf Tryd.f7))
abbrev cgK : List Nat := [7, 10, 19, 21, 23, 25, 26]
theorem cgRound (g : Nat) (l0 l1 l2 l3 l4 ns : List Int) (hn : ns.length = 32) (i : Nat) (hi : i < 32) (hx : ns.getD i 0 = 255) :
    RunTo (env []) g [] 0 cgBody (cgX l0 l1 l2 l3 l4 ns i) .normal (cgX l0 l1 l2 l3 l4 (ns.set i 0) ((i + 1 : Nat) : Int)) := by
  have hw : IntKind.wrap .i64 ((i : Int) + 1) = ((i + 1 : Nat) : Int) := wrapi (i + 1) (by omega)
  refine goR (env_nil g) ⟨[133, 139], [24, 25]⟩ [] 90 [true, true] cgK (by kernel_rfl) trivial (X := cgX l0 l1 l2 l3 l4 ns i) (Y0 := cgX l0 l1 l2 l3 l4 (ns.set (0 + (i : Int).toNat) 0) (IntKind.wrap .i64 ((i : Int) + 1)))
    (cs := [.tt (decide ((i : Int) < 32) == true), .ile 0 (i : Int), .ilt (i : Int) (32 : Nat), .le 32 ns.length, .lt (0 + (i : Int).toNat) ns.length, .tt ((bif true then ns.getD (0 + (i : Int).toNat) 0 == 255 else false) == true),
      .ile 0 (i : Int), .ilt (i : Int) (32 : Nat), .le 32 ns.length, .lt (0 + (i : Int).toNat) ns.length]) (by kernel_rfl) (by kernel_rfl) ?_ ?_
  · have e : 0 + (i : Int).toNat = i := by rw [toNat_cast, Nat.zero_add]
    rw [e, hn, hx]
    refine ⟨?_, ?_, ?_, ?_, ?_, rfl, ?_, ?_, ?_, ?_, trivial⟩ <;> simp only [Cond.holds] <;> first | omega | (simp; omega)
  · rw [hw, toNat_cast, Nat.zero_add]
theorem cgExit (g : Nat) (l0 l1 l2 l3 l4 ns : List Int) (hn : ns.length = 32) (i : Nat) (hi : i < 32) (hx : ns.getD i 0 ≠ 255) :
    RunTo (env []) g [] 0 cgBody (cgX l0 l1 l2 l3 l4 ns i) (.exit 2) (cgX l0 l1 l2 l3 l4 ns i) := by
  refine goR (env_nil g) ⟨[133, 139], [24, 25]⟩ [] 90 [true, false] cgK (by kernel_rfl) trivial (X := cgX l0 l1 l2 l3 l4 ns i)
    (cs := [.tt (decide ((i : Int) < 32) == true), .ile 0 (i : Int), .ilt (i : Int) (32 : Nat), .le 32 ns.length, .lt (0 + (i : Int).toNat) ns.length, .tt ((bif true then ns.getD (0 + (i : Int).toNat) 0 == 255 else false) == false)]) (by kernel_rfl) (by kernel_rfl) ?_ rfl
  have e : 0 + (i : Int).toNat = i := by rw [toNat_cast, Nat.zero_add]
  rw [e, hn]
  refine ⟨?_, ?_, ?_, ?_, ?_, ?_, trivial⟩ <;> simp only [Cond.holds] <;> first | omega | (simp; omega) | (simp; exact hx)
theorem cgExit2 (g : Nat) (l0 l1 l2 l3 l4 ns : List Int) : RunTo (env []) g [] 0 cgBody (cgX l0 l1 l2 l3 l4 ns (32 : Nat)) (.exit 2) (cgX l0 l1 l2 l3 l4 ns (32 : Nat)) :=
  goR (env_nil g) ⟨[], []⟩ [] 90 [] cgK (by kernel_rfl) trivial (X := cgX l0 l1 l2 l3 l4 ns (32 : Nat)) (cs := []) (by kernel_rfl) (by kernel_rfl) trivial rfl
theorem cgLoop (g : Nat) (l0 l1 l2 l3 l4 ns : List Int) (hn : ns.length = 32) : RunTo (env []) g [] 0 (.block 2 (theB 2 (bodyOf Tryd.f7))) (cgX l0 l1 l2 l3 l4 ns 0) .normal (cgX l0 l1 l2 l3 l4 (cgL ns (lead ns)) (lead ns : Nat)) := by
  have e : theB 2 (bodyOf Tryd.f7) = .loop cgBody := by kernel_rfl
  rw [e]
  have hk := lead_le ns
  rw [hn] at hk
  have key := RunTo.loop (E := env []) (g := g) (ds := []) (n0 := 0) (c := cgBody) (fun i => i ≤ lead ns) (fun i => lead ns - i) (fun i => cgX l0 l1 l2 l3 l4 (cgL ns i) (i : Nat)) (fun _ => (.exit 2, cgX l0 l1 l2 l3 l4 (cgL ns (lead ns)) (lead ns : Nat))) ?_ 0 (Nat.zero_le _)
  · have e0 : cgL ns 0 = ns := by simp [cgL]
    simp only [e0] at key
    exact RunTo.block key
  · intro i hi
    by_cases h : i < lead ns
    · refine .inl ⟨i + 1, by omega, by omega, rfl, ?_⟩
      have := cgRound g l0 l1 l2 l3 l4 (cgL ns i) (by rw [cgL_len (by omega), hn]) i (by omega) (by rw [cgL_get (by omega)]; exact lead_get ns i h)
      rw [cgL_set (by omega)] at this
      exact this
    · have : i = lead ns := by omega
      subst this
      refine .inr ⟨(by intro h; cases h), ?_⟩
      by_cases h32 : lead ns = 32
      · have h2 := cgExit2 g l0 l1 l2 l3 l4 (cgL ns 32)
        rw [h32]
        exact h2
      · exact cgExit g l0 l1 l2 l3 l4 _ (by rw [cgL_len (by omega), hn]) _ (by omega) (by rw [cgL_get (by omega)]; exact lead_at ns (by omega))
/- A KEY -/
def keyE (s : List UInt8) : List Int := putRow z32 0 (List.take (Nat.min s.length 32) (bytesOf s))
def fKeyE (kf : List UInt8 → List Int) : Spec := fun args H =>
  match args, H with
  | [.str s], [] => some (.bsl 0 0 0 32, [.buf 5 .u8 (kf s)], [])
  | _, _ => none
theorem okKeyE {kf : List UInt8 → List Int} (h0 : kf = keyE) (g : Nat) : Ok g 33 (fKeyE kf) := by
  subst h0
  intro args H r H' c h hc L w hs hg hok
  unfold fKeyE at h
  split at h
  case h_2 => cases h
  rename_i s
  simp only [Option.some.injEq, Prod.mk.injEq] at h
  obtain ⟨rfl, rfl, rfl⟩ := h
  exact go (env_nil g) ⟨[], [1, 2, 3]⟩ 90 [] Tryd.func33 (by kernel_rfl) (by kernel_rfl)
    (cs := [.ile 0 32, .ile 32 32, .ile 32 1099511627776, .le (List.take (Nat.min s.length 32) (bytesOf s)).length 32, .le 32 32]) (by kernel_rfl) (by kernel_rfl)
    ⟨ck rfl, ck rfl, ck rfl, (by show (List.take (Nat.min s.length 32) (bytesOf s)).length ≤ 32; rw [List.length_take]; exact Nat.le_trans (Nat.min_le_left _ _) (Nat.min_le_right _ _)), ck rfl, trivial⟩ (Alike.refl _) rfl hs hg hok
noncomputable def l7c (kf : List UInt8 → List Int) (mul sum : List Int → List Int → List Int) : List (FuncId × Spec) := [(33, fKeyE kf), (32, fMulE mul), (34, fSumE sum), (35, fPointE)]
theorem l7c_ok {kf : List UInt8 → List Int} {mul sum : List Int → List Int → List Int} (h1 : kf = keyE) (h2 : mul = mulE) (h3 : sum = sumE) (g : Nat) : EnvOk (env (l7c kf mul sum)) g := by
  subst h2 h3
  exact env_cons (okKeyE h1 g) (env_cons (okMulE g) (env_cons (okSumE g) (env_cons (okPointE g) (env_nil g))))
end Go.Am.Sl
namespace Go.Am.Sl
open Go.Am Go.Proofs Kr Gp Fe
/- LAW 7: THE GROUP OF THE CURVE OF SIGNATURES -/
def B0 : List Int := [88, 102, 102, 102, 102, 102, 102, 102, 102, 102, 102, 102, 102, 102, 102, 102, 102, 102, 102, 102, 102, 102, 102, 102, 102, 102, 102, 102, 102, 102, 102, 102]
def N0 : List Int := [1, 0, 0, 0, 0, 0, 0, 0, 0, 0, 0, 0, 0, 0, 0, 0, 0, 0, 0, 0, 0, 0, 0, 0, 0, 0, 0, 0, 0, 0, 0, 0]
def pX (kf : List UInt8 → List Int) (mul : List Int → List Int → List Int) (s : List UInt8) : List Int := mul (z0 (kf s)) (z0 B0)
def qS' (sum : List Int → List Int → List Int) (x y : List Int) : List Int := sum (z0 x) (z0 y)
def cT (l m : List Int) : List Cond := [.prop (32 = 32), .le 32 l.length, .prop (isB l), .le 32 m.length, .prop (isB m), .prop (rdOkE dL (z0 m))]
def cS (l m : List Int) : List Cond := [.le 32 l.length, .prop (isB l), .prop (rdOkE dL (z0 l)), .le 32 m.length, .prop (isB m), .prop (rdOkE dL (z0 m))]
/-- bytes that are a point -/
structure GP (l : List Int) : Prop where
  len : 32 ≤ l.length
  b : isB l
  rd : rdOkE dL (z0 l)
theorem cS_ok {l m : List Int} (h : GP l) (h' : GP m) : All (cS l m) := ⟨h.len, h.b, h.rd, h'.len, h'.b, h'.rd, trivial⟩
theorem cT_ok {l m : List Int} (h1 : 32 ≤ l.length) (h2 : isB l) (h' : GP m) : All (cT l m) := ⟨rfl, h1, h2, h'.len, h'.b, h'.rd, trivial⟩
def eqS (l m : List Int) : Bool := strOf (z0 l) == strOf (z0 m)
theorem eqS_of {l m : List Int} (h : l = m) : eqS l m = true := by subst h; simp [eqS]
def csA (kf : List UInt8 → List Int) (mul sum : List Int → List Int → List Int) (a b c : List UInt8) (X Y Z XY YX YZ : List Int) : List Cond :=
  cT (kf a) B0 ++ (cT (kf b) B0 ++ (cT (kf c) B0 ++ (cS X Y ++ (cS Y X ++ (cS Y Z ++ ([.le 32 XY.length, .le 32 YX.length, .tt ((bif false then true else !(eqS XY YX)) == false)] ++ (cS XY Z ++ (cS X YZ ++ cS X N0))))))))
def nsI (k : Nat) (M : List Int) : List Int := List.set M (0 + k) (IntKind.wrap .u8 (M.getD (0 + k) 0 + 1))
def csK (k : Nat) (M : List Int) : List Cond := [.ile 0 (k : Int), .ilt (k : Int) (32 : Nat), .le 32 M.length, .lt (0 + k) M.length, .ile 0 (k : Int), .ilt (k : Int) (32 : Nat), .le 32 M.length, .lt (0 + k) M.length]
def csB (NS X LL RR OO W1 W2 : List Int) : List Cond :=
  cT NS B0 ++ (cS X B0 ++ [.le 32 LL.length, .prop (isB LL), .prop (rdOkE dL (z0 LL)), .tt true, .le 32 LL.length, .le 32 RR.length, .tt ((bif true then eqS LL RR else false) == true), .le 32 OO.length, .le 32 X.length, .tt ((bif true then eqS OO X else false) == true), .le 32 W1.length, .le 32 W2.length])
section
variable (g : Nat) (kf : List UInt8 → List Int) (mul sum : List Int → List Int → List Int) (a b c : List UInt8)
theorem law7A (hE : EnvOk (env (l7c kf mul sum)) g) {X Y Z XY YX YZ LL RR OO : List Int} (eX : X = pX kf mul a) (eY : Y = pX kf mul b) (eZ : Z = pX kf mul c) (eXY : XY = qS' sum X Y) (eYX : YX = qS' sum Y X) (eYZ : YZ = qS' sum Y Z)
    (eL : LL = qS' sum XY Z) (eR : RR = qS' sum X YZ) (eO : OO = qS' sum X N0) (ha : All (csA kf mul sum a b c X Y Z XY YX YZ)) (hl : (kf a).length = 32) (hk : lead (kf a) < 32)
    (hb : All (csK (lead (kf a)) (cgL (kf a) (lead (kf a))))) (hc : All (csB (nsI (lead (kf a)) (cgL (kf a) (lead (kf a)))) X LL RR OO (mul (z0 (nsI (lead (kf a)) (cgL (kf a) (lead (kf a))))) (z0 B0)) (qS' sum X B0)))
    (hr : eqS (mul (z0 (nsI (lead (kf a)) (cgL (kf a) (lead (kf a))))) (z0 B0)) (qS' sum X B0) = true)
    {L : Nat → Loc} {w : World} (hs : Sim g L [] w) (hg : GlobsOk glob g w) (hok : AVal.oks (Th []) [.str a, .str b, .str c]) :
    CallF P 7 (AVal.concs L [.str a, .str b, .str c]).toArray w (Back g L [] w (.bool true) []) := by
  subst eX eY eZ eXY eYX eYZ eL eR eO
  have hB : sumsOk (env (l7c kf mul sum)) g [] 0 (bodyOf Tryd.f7) [toldB 0 2 cgK (cgX B0 (pX kf mul a) (qS' sum (qS' sum (pX kf mul a) (pX kf mul b)) (pX kf mul c)) (qS' sum (pX kf mul a) (qS' sum (pX kf mul b) (pX kf mul c))) (qS' sum (pX kf mul a) N0) (kf a) 0) .normal
      (cgX B0 (pX kf mul a) (qS' sum (qS' sum (pX kf mul a) (pX kf mul b)) (pX kf mul c)) (qS' sum (pX kf mul a) (qS' sum (pX kf mul b) (pX kf mul c))) (qS' sum (pX kf mul a) N0) (cgL (kf a) (lead (kf a))) (lead (kf a) : Nat))] :=
    ⟨toldB_ok (id := 2) ((cgLoop g B0 (pX kf mul a) (qS' sum (qS' sum (pX kf mul a) (pX kf mul b)) (pX kf mul c)) (qS' sum (pX kf mul a) (qS' sum (pX kf mul b) (pX kf mul c))) (qS' sum (pX kf mul a) N0) (kf a) hl)), trivial⟩
  have hS := AlikeS.refl (cgX B0 (pX kf mul a) (qS' sum (qS' sum (pX kf mul a) (pX kf mul b)) (pX kf mul c)) (qS' sum (pX kf mul a) (qS' sum (pX kf mul b) (pX kf mul c))) (qS' sum (pX kf mul a) N0) (kf a) 0)
  have hk2 : (((lead (kf a) : Nat) : Int) == 32) = false := by simp; omega
  refine goB (H := []) hE ⟨[110, 146, 180, 187, 194], [17, 28, 29, 33]⟩ _ 200 [false, false, true, true, true] Tryd.func7 (by kernel_rfl) (by kernel_rfl) (by kernel_rfl) hB
    (r0 := .bool (bif true then eqS (mul (z0 (nsI (lead (kf a)) (cgL (kf a) (lead (kf a))))) (z0 B0)) (qS' sum (pX kf mul a) B0) else false)) (H0 := [])
    (cs := csA kf mul sum a b c (pX kf mul a) (pX kf mul b) (pX kf mul c) (qS' sum (pX kf mul a) (pX kf mul b)) (qS' sum (pX kf mul b) (pX kf mul a)) (qS' sum (pX kf mul b) (pX kf mul c)) ++
      (.prop (AlikeS (cgX B0 (pX kf mul a) (qS' sum (qS' sum (pX kf mul a) (pX kf mul b)) (pX kf mul c)) (qS' sum (pX kf mul a) (qS' sum (pX kf mul b) (pX kf mul c))) (qS' sum (pX kf mul a) N0) (kf a) 0) (cgX B0 (pX kf mul a) (qS' sum (qS' sum (pX kf mul a) (pX kf mul b)) (pX kf mul c)) (qS' sum (pX kf mul a) (qS' sum (pX kf mul b) (pX kf mul c))) (qS' sum (pX kf mul a) N0) (kf a) 0)) ::
        .tt ((((lead (kf a) : Nat) : Int) == 32) == false) :: (csK (lead (kf a)) (cgL (kf a) (lead (kf a))) ++
        csB (nsI (lead (kf a)) (cgL (kf a) (lead (kf a)))) (pX kf mul a) (qS' sum (qS' sum (pX kf mul a) (pX kf mul b)) (pX kf mul c)) (qS' sum (pX kf mul a) (qS' sum (pX kf mul b) (pX kf mul c))) (qS' sum (pX kf mul a) N0) (mul (z0 (nsI (lead (kf a)) (cgL (kf a) (lead (kf a))))) (z0 B0)) (qS' sum (pX kf mul a) B0))))
    (by kernel_rfl) (by kernel_rfl) ?_ (alike_eq (by rw [hr]; rfl)) rfl hs hg hok
  exact (All_append _ _).2 ⟨ha, hS, (by show (_ == false) = true; rw [hk2]; rfl), (All_append _ _).2 ⟨hb, hc⟩⟩
theorem law7B (hE : EnvOk (env (l7c kf mul sum)) g) {X Y Z XY YX YZ LL RR OO : List Int} (eX : X = pX kf mul a) (eY : Y = pX kf mul b) (eZ : Z = pX kf mul c) (eXY : XY = qS' sum X Y) (eYX : YX = qS' sum Y X) (eYZ : YZ = qS' sum Y Z)
    (eL : LL = qS' sum XY Z) (eR : RR = qS' sum X YZ) (eO : OO = qS' sum X N0) (ha : All (csA kf mul sum a b c X Y Z XY YX YZ)) (hl : (kf a).length = 32) (hk : lead (kf a) = 32)
    (h1 : 32 ≤ LL.length) (h2 : 32 ≤ RR.length) (h3 : 32 ≤ OO.length) (h4 : 32 ≤ X.length) (e1 : eqS LL RR = true) (e2 : eqS OO X = true)
    {L : Nat → Loc} {w : World} (hs : Sim g L [] w) (hg : GlobsOk glob g w) (hok : AVal.oks (Th []) [.str a, .str b, .str c]) :
    CallF P 7 (AVal.concs L [.str a, .str b, .str c]).toArray w (Back g L [] w (.bool true) []) := by
  subst eX eY eZ eXY eYX eYZ eL eR eO
  have hB : sumsOk (env (l7c kf mul sum)) g [] 0 (bodyOf Tryd.f7) [toldB 0 2 cgK (cgX B0 (pX kf mul a) (qS' sum (qS' sum (pX kf mul a) (pX kf mul b)) (pX kf mul c)) (qS' sum (pX kf mul a) (qS' sum (pX kf mul b) (pX kf mul c))) (qS' sum (pX kf mul a) N0) (kf a) 0) .normal
      (cgX B0 (pX kf mul a) (qS' sum (qS' sum (pX kf mul a) (pX kf mul b)) (pX kf mul c)) (qS' sum (pX kf mul a) (qS' sum (pX kf mul b) (pX kf mul c))) (qS' sum (pX kf mul a) N0) (cgL (kf a) (lead (kf a))) (lead (kf a) : Nat))] :=
    ⟨toldB_ok (id := 2) ((cgLoop g B0 (pX kf mul a) (qS' sum (qS' sum (pX kf mul a) (pX kf mul b)) (pX kf mul c)) (qS' sum (pX kf mul a) (qS' sum (pX kf mul b) (pX kf mul c))) (qS' sum (pX kf mul a) N0) (kf a) hl)), trivial⟩
  have hS := AlikeS.refl (cgX B0 (pX kf mul a) (qS' sum (qS' sum (pX kf mul a) (pX kf mul b)) (pX kf mul c)) (qS' sum (pX kf mul a) (qS' sum (pX kf mul b) (pX kf mul c))) (qS' sum (pX kf mul a) N0) (kf a) 0)
  have hk2 : (((lead (kf a) : Nat) : Int) == 32) = true := by simp; omega
  refine goB (H := []) hE ⟨[110, 146, 152], [17, 28]⟩ _ 200 [false, true, true] Tryd.func7 (by kernel_rfl) (by kernel_rfl) (by kernel_rfl) hB
    (r0 := .bool (bif true then eqS (qS' sum (pX kf mul a) N0) (pX kf mul a) else false)) (H0 := [])
    (cs := csA kf mul sum a b c (pX kf mul a) (pX kf mul b) (pX kf mul c) (qS' sum (pX kf mul a) (pX kf mul b)) (qS' sum (pX kf mul b) (pX kf mul a)) (qS' sum (pX kf mul b) (pX kf mul c)) ++
      [.prop (AlikeS (cgX B0 (pX kf mul a) (qS' sum (qS' sum (pX kf mul a) (pX kf mul b)) (pX kf mul c)) (qS' sum (pX kf mul a) (qS' sum (pX kf mul b) (pX kf mul c))) (qS' sum (pX kf mul a) N0) (kf a) 0) (cgX B0 (pX kf mul a) (qS' sum (qS' sum (pX kf mul a) (pX kf mul b)) (pX kf mul c)) (qS' sum (pX kf mul a) (qS' sum (pX kf mul b) (pX kf mul c))) (qS' sum (pX kf mul a) N0) (kf a) 0)),
        .tt ((((lead (kf a) : Nat) : Int) == 32) == true), .le 32 (qS' sum (qS' sum (pX kf mul a) (pX kf mul b)) (pX kf mul c)).length, .le 32 (qS' sum (pX kf mul a) (qS' sum (pX kf mul b) (pX kf mul c))).length,
        .tt (eqS (qS' sum (qS' sum (pX kf mul a) (pX kf mul b)) (pX kf mul c)) (qS' sum (pX kf mul a) (qS' sum (pX kf mul b) (pX kf mul c))) == true), .le 32 (qS' sum (pX kf mul a) N0).length, .le 32 (pX kf mul a).length])
    (by kernel_rfl) (by kernel_rfl) ?_ (alike_eq (by rw [e2]; rfl)) rfl hs hg hok
  exact (All_append _ _).2 ⟨ha, hS, (by show (_ == true) = true; rw [hk2]; rfl), h1, h2, (by show (_ == true) = true; rw [e1]; rfl), h3, h4, trivial⟩
end
end Go.Am.Sl
namespace Go.Am.Sl
open Go.Am Go.Proofs Kr Gp Fe
/- LAW 7: THE PLAIN LAW -/
def encE (A : Fin p25 × Fin p25) : List Int := sgn (tbL A.2.val) A.1.val
abbrev PE := P4R (Rf p25)
theorem bytE_rep {P : P4 Int} {Q : P4 (Fin p25)} (h : PE P Q) {A : Fin p25 × Fin p25} (hA : ERep Q A) : bytE P = encE A := by
  unfold bytE encE
  have hi := fld_p25.inv Q.z hA.z
  rw [affJ_rf h.x h.z, affJ_rf h.y h.z, hA.x, hA.y, mul_div hi, mul_div hi]
theorem be_acc : ∀ (l : List Int) (a : Nat), l.foldl (fun a x => a * 256 + x.toNat) a = a * 256 ^ l.length + be l
  | [], a => by simp [be]
  | x :: l, a => by
    have h1 := be_acc l (a * 256 + x.toNat)
    have h2 := be_acc l x.toNat
    have h3 : be (x :: l) = l.foldl (fun a x => a * 256 + x.toNat) x.toNat := by simp [be]
    rw [List.foldl_cons, h1, h3, h2, List.length_cons, Nat.pow_succ]
    grind
theorem be_cons (x : Int) (l : List Int) : be (x :: l) = x.toNat * 256 ^ l.length + be l := by
  have h3 : be (x :: l) = l.foldl (fun a x => a * 256 + x.toNat) x.toNat := by simp [be]
  rw [h3, be_acc]
theorem or_top : ∀ (n : Fin 128) (b : Fin 2), bitsI .or .u8 (n.val : Int) (IntKind.wrap .u8 (IntKind.wrap .u8 (b.val : Int) * 128)) = ((n.val + 128 * b.val : Nat) : Int) := by decide +kernel
theorem toB_cons (Y : Nat) : toB 32 Y = ((Y / 256 ^ 31 % 256 : Nat) : Int) :: (toB 32 Y).tail := rfl
theorem sgn_eq (Y X : Nat) (h : Y < 2 ^ 255) : sgn (tbL Y) X = (toB 32 Y).tail.reverse ++ [((Y / 256 ^ 31 + 128 * (X % 2) : Nat) : Int)] := by
  have hl : (toB 32 Y).tail.reverse.length = 31 := rfl
  have hb : Y / 256 ^ 31 < 128 := by
    rw [Nat.div_lt_iff_lt_mul (by decide)]
    exact h
  have e1 : tbL Y = (toB 32 Y).tail.reverse ++ [((Y / 256 ^ 31 % 256 : Nat) : Int)] := by
    unfold tbL
    conv => lhs; rw [toB_cons]
    rw [List.reverse_cons]
  unfold sgn
  rw [e1, List.set_append_right _ _ (by rw [hl]; exact Nat.le_refl _), hl, Nat.sub_self, List.set_cons_zero]
  congr 2
  rw [List.getD_eq_getElem?_getD, List.getElem?_append_right (by rw [hl]; exact Nat.le_refl _), hl, Nat.sub_self]
  show bitsI .or .u8 ((Y / 256 ^ 31 % 256 : Nat) : Int) _ = _
  rw [limb0_par, Nat.mod_eq_of_lt (show Y / 256 ^ 31 < 256 by omega)]
  exact or_top ⟨Y / 256 ^ 31, hb⟩ ⟨X % 2, Nat.mod_lt _ (by decide)⟩
theorem p25_lt : p25 < 2 ^ 255 := by decide +kernel
theorem v_lt (a : Fin p25) : a.val < 2 ^ 255 := Nat.lt_trans a.isLt p25_lt
theorem encE_len (A : Fin p25 × Fin p25) : (encE A).length = 32 := by
  unfold encE sgn
  rw [List.length_set, tbL_len]
theorem le_encE (A : Fin p25 × Fin p25) : le (encE A) = A.2.val + 2 ^ 255 * (A.1.val % 2) := by
  have h := v_lt A.2
  unfold encE le
  rw [sgn_eq _ _ h, List.reverse_append, List.reverse_reverse]
  show be (((A.2.val / 256 ^ 31 + 128 * (A.1.val % 2) : Nat) : Int) :: (toB 32 A.2.val).tail) = _
  have h1 := be_toB 32 A.2.val
  rw [toB_cons, be_cons] at h1
  rw [be_cons]
  have hl : (toB 32 A.2.val).tail.length = 31 := rfl
  rw [hl] at h1 ⊢
  have hb : A.2.val / 256 ^ 31 < 128 := by
    rw [Nat.div_lt_iff_lt_mul (by decide)]
    exact h
  rw [toNat_cast, Nat.mod_eq_of_lt (show A.2.val / 256 ^ 31 < 256 by omega), Nat.mod_eq_of_lt (Nat.lt_trans h (by decide))] at h1
  rw [toNat_cast]
  generalize be (toB 32 A.2.val).tail = t at *
  generalize A.2.val / 256 ^ 31 = u at *
  generalize A.1.val % 2 = o at *
  have : (2 : Nat) ^ 255 = 128 * 256 ^ 31 := by decide
  rw [this, ← h1]
  grind
theorem isB_encE (A : Fin p25 × Fin p25) : isB (encE A) := by
  have h := v_lt A.2
  unfold encE
  rw [sgn_eq _ _ h]
  have hb : A.2.val / 256 ^ 31 < 128 := by
    rw [Nat.div_lt_iff_lt_mul (by decide)]
    exact h
  intro x hx
  rcases List.mem_append.1 hx with hx | hx
  · exact isB_toB 32 A.2.val x (List.mem_of_mem_tail (List.mem_reverse.1 hx))
  · simp only [List.mem_singleton] at hx
    subst hx
    omega
theorem nY_enc (A : Fin p25 × Fin p25) : nY (le (encE A)) = A.2.val := by
  rw [nY_eq, le_encE, Nat.add_mul_mod_self_left, Nat.mod_eq_of_lt (v_lt A.2)]
theorem oB_enc (A : Fin p25 × Fin p25) : oB (le (encE A)) = decide (A.1.val % 2 = 1) := by
  have h := v_lt A.2
  have h2 : A.1.val % 2 < 2 := Nat.mod_lt _ (by decide)
  rw [oB_eq _ (by rw [le_encE]; omega), le_encE, Nat.add_mul_div_left _ _ (by decide), Nat.div_eq_of_lt h, Nat.zero_add]
theorem rX_enc {A : Fin p25 × Fin p25} (hA : Eon A) : Rf p25 (rX rootE rootA dL (le (encE A))) A.1 := by
  have h1 := rootE_rf (rootA_rf hA dL_rf (rg_val A.2))
  have h2 := rt_x A.1
  unfold rX
  rw [nY_enc, oB_enc]
  by_cases e : A.1.val % 2 = 1
  · rw [if_pos e] at h2
    rw [decide_eq_true e, cond_true]
    have := rg_sub rg_zero h1
    rw [h2] at this
    exact this
  · rw [if_neg e] at h2
    rw [decide_eq_false e, cond_false]
    rw [h2] at h1
    exact h1
theorem rdOkE_enc {A : Fin p25 × Fin p25} (hA : Eon A) : rdOkE dL (encE A) := by
  have h0 := rootA_rf hA dL_rf (rg_val A.2)
  have h1 := rootE_rf h0
  refine ⟨encE_len A, ?_, ?_, ?_⟩
  · rw [nY_enc]; exact A.2.isLt
  · rw [nY_enc]; exact rootOk_rf h0
  · rw [nY_enc, oB_enc]
    intro ho
    rw [rg_feq h1]
    exact decide_eq_false (rt_odd_ne (of_decide_eq_true ho))
theorem rdE_enc {A : Fin p25 × Fin p25} (hA : Eon A) : PE (rdE dL (encE A)) (epj A) := by
  have hx := rX_enc hA
  have hy : Rf p25 ((nY (le (encE A)) : Nat) : Int) A.2 := by rw [nY_enc]; exact rg_val A.2
  exact ⟨hx, hy, rg_one, rg_mul hx hy⟩
theorem ep_self (A : Fin p25 × Fin p25) : ERep (epj A) A := erep_pj fld_p25 two_p25 i25_sq d25_ns A
abbrev eadd4 : P4 (Fin p25) → P4 (Fin p25) → P4 (Fin p25) := eplus (Ops.fin p25) d25
theorem eadd_rep {P Q : P4 (Fin p25)} {A B : Fin p25 × Fin p25} (hA : Eon A) (hB : Eon B) (hP : ERep P A) (hQ : ERep Q B) : ERep (eadd4 P Q) (eadd A B) :=
  eplus_rep fld_p25 two_p25 i25_sq d25_ns hA hB hP hQ
theorem esum_good {P P' : P4 Int} {Q Q' : P4 (Fin p25)} (h : PE P Q) (h' : PE P' Q') : PE (eplus Ops.int dL P P') (eadd4 Q Q') := eplus_good (int_fin p25) dL_rf h h'
theorem etms_good (n : Nat) {P : P4 Int} {Q : P4 (Fin p25)} (h : PE P Q) : ∀ (i : Nat) (O : P4 Int) (O' : P4 (Fin p25)), PE O O' → PE (tms (eplus Ops.int dL) eO n P i O) (tms eadd4 (epj eZ) n Q i O')
  | 0, O, O', hO => hO
  | i + 1, O, O', hO => by
    simp only [tms]
    split
    · exact etms_good n h i _ _ (esum_good (esum_good hO hO) h)
    · exact etms_good n h i _ _ (esum_good hO hO)
theorem eZ_on : Eon eZ := eg.e_in
theorem eO_good : PE eO (epj eZ) := ⟨rg_zero, rg_one, rg_one, rg_mul rg_zero rg_one⟩
theorem etms_rep (n : Nat) {P : P4 (Fin p25)} {A : Fin p25 × Fin p25} (hA : Eon A) (hP : ERep P A) :
    ∀ i (O : P4 (Fin p25)) (B : Fin p25 × Fin p25), Eon B → ERep O B → ERep (tms eadd4 (epj eZ) n P i O) (tms eadd eZ n A i B)
  | 0, O, B, _, hO => hO
  | i + 1, O, B, hB, hO => by
    simp only [tms]
    split
    · exact etms_rep n hA hP i _ _ (eg.op_in (eg.op_in hB hB) hA) (eadd_rep (eg.op_in hB hB) hA (eadd_rep hB hB hO hO) hP)
    · exact etms_rep n hA hP i _ _ (eg.op_in hB hB) (eadd_rep hB hB hO hO)
theorem esum_law {A B : Fin p25 × Fin p25} (hA : Eon A) (hB : Eon B) : sumE (encE A) (encE B) = encE (eadd A B) :=
  bytE_rep (esum_good (rdE_enc hA) (rdE_enc hB)) (eadd_rep hA hB (ep_self A) (ep_self B))
theorem emul_law {zs : List Int} (h : le zs < 2 ^ 256) {A : Fin p25 × Fin p25} (hA : Eon A) : mulE zs (encE A) = encE (ml eadd eZ (le zs) A) := by
  have h1 := etms_rep (le zs) hA (ep_self A) 256 _ _ eZ_on (ep_self eZ)
  rw [eg.tms_all hA h] at h1
  exact bytE_rep (etms_good (le zs) (rdE_enc hA) 256 _ _ eO_good) h1
theorem B0_eq : B0 = encE eB := by decide +kernel
theorem N0_eq : N0 = encE eZ := by decide +kernel
theorem z0_32 {l : List Int} (h : l.length = 32) : z0 l = l := by rw [z0, List.drop_zero, ← h, List.take_length]
theorem z0_enc (A : Fin p25 × Fin p25) : z0 (encE A) = encE A := z0_32 (encE_len A)
theorem gp_enc {A : Fin p25 × Fin p25} (hA : Eon A) : GP (encE A) := ⟨by rw [encE_len]; exact Nat.le_refl _, isB_encE A, by rw [z0_enc]; exact rdOkE_enc hA⟩
theorem le_lt {l : List Int} (h : isB l) (hl : l.length = 32) : le l < 2 ^ 256 := by
  have := be_lt l.reverse (isB_rev h)
  rw [List.length_reverse, hl] at this
  exact this
theorem putRow_len {xs ys : List Int} (h : ys.length ≤ xs.length) : (putRow xs 0 ys).length = xs.length := by
  simp [putRow]; omega
theorem keyE_ok (s : List UInt8) : (keyE s).length = 32 ∧ isB (keyE s) := by
  have h : (List.take (Nat.min s.length 32) (bytesOf s)).length ≤ z32.length := by
    rw [List.length_take]; exact Nat.le_trans (Nat.min_le_left _ _) (Nat.min_le_right _ _)
  refine ⟨putRow_len h, ?_⟩
  have hz : isB z32 := isB_of rfl
  intro x hx
  unfold keyE putRow at hx
  rw [List.take_zero, List.nil_append] at hx
  rcases List.mem_append.1 hx with hx | hx
  · exact isB_bytesOf s x (List.mem_of_mem_take hx)
  · exact hz x (List.mem_of_mem_drop hx)
def fLaw7 : Spec := fun args H =>
  match args, H with
  | [.str a, .str b, .str c], [] => some (.bool true, [], [])
  | _, _ => none
theorem okLaw7 (g : Nat) : Ok g 7 fLaw7 := by
  intro args H r H' c' h hc L w hs hg hok
  unfold fLaw7 at h
  split at h
  case h_2 => cases h
  rename_i a b c
  simp only [Option.some.injEq, Prod.mk.injEq] at h
  obtain ⟨rfl, rfl, rfl⟩ := h
  have hE := l7c_ok (kf := keyE) (mul := mulE) (sum := sumE) rfl rfl rfl g
  have hk := keyE_ok
  have hB := eB_on
  have hX : ∀ s, pX keyE mulE s = encE (ml eadd eZ (le (keyE s)) eB) := by
    intro s
    unfold pX
    rw [z0_32 (hk s).1, B0_eq, z0_enc]
    exact emul_law (le_lt (hk s).2 (hk s).1) hB
  have hS : ∀ {A B : Fin p25 × Fin p25}, Eon A → Eon B → qS' sumE (encE A) (encE B) = encE (eadd A B) := by
    intro A B hA hB
    unfold qS'
    rw [z0_enc, z0_enc]
    exact esum_law hA hB
  have on : ∀ n, Eon (ml eadd eZ n eB) := fun n => eg.ml_in n hB
  have hA := on (le (keyE a))
  have hBb := on (le (keyE b))
  have hC := on (le (keyE c))
  have gB : GP B0 := by rw [B0_eq]; exact gp_enc hB
  have gN : GP N0 := by rw [N0_eq]; exact gp_enc eZ_on
  have e32 : ∀ A : Fin p25 × Fin p25, 32 ≤ (encE A).length := fun A => by rw [encE_len]; exact Nat.le_refl _
  have hkl : ∀ s, 32 ≤ (keyE s).length := fun s => by rw [(hk s).1]; exact Nat.le_refl _
  have e1 := hX a
  have e2 := hX b
  have e3 := hX c
  have inc : lead (keyE a) < 32 → mulE (z0 (nsI (lead (keyE a)) (cgL (keyE a) (lead (keyE a))))) (z0 B0) = encE (eadd (ml eadd eZ (le (keyE a)) eB) eB) ∧ 32 ≤ (nsI (lead (keyE a)) (cgL (keyE a) (lead (keyE a)))).length ∧ isB (nsI (lead (keyE a)) (cgL (keyE a) (lead (keyE a)))) := by
    intro h32
    have hlt : lead (keyE a) < (keyE a).length := by rw [(hk a).1]; exact h32
    have hb255 := lead_at (keyE a) hlt
    have hx : (keyE a).getD (lead (keyE a)) 0 ∈ keyE a := by
      rw [List.getD_eq_getElem?_getD, List.getElem?_eq_getElem hlt]
      exact List.getElem_mem _
    obtain ⟨b0, b1⟩ := (hk a).2 _ hx
    have e : nsI (lead (keyE a)) (cgL (keyE a) (lead (keyE a))) = incL (keyE a) := by
      unfold nsI
      rw [Nat.zero_add, cgL_get hlt, ← inc_set _ hlt]
      congr 1
      obtain ⟨n, hn⟩ := Int.eq_ofNat_of_zero_le b0
      rw [hn] at b1 hb255 ⊢
      have hw := wrap8 (n + 1)
      have h3 : (n + 1) % 256 = n + 1 := Nat.mod_eq_of_lt (by omega)
      rw [h3] at hw
      exact hw
    rw [e]
    have hl : (incL (keyE a)).length = 32 := by rw [inc_len, (hk a).1]
    refine ⟨?_, by rw [hl]; exact Nat.le_refl _, isB_inc _ (hk a).2⟩
    rw [z0_32 hl, B0_eq, z0_enc, emul_law (le_lt (isB_inc _ (hk a).2) hl) hB, inc_le _ (hk a).2 hlt, eg.ml_add _ 1 hB, eg.ml_one hB]
  generalize le (keyE a) = na at *
  generalize le (keyE b) = nb at *
  generalize le (keyE c) = nc at *
  generalize ml eadd eZ na eB = A at *
  generalize ml eadd eZ nb eB = B at *
  generalize ml eadd eZ nc eB = C at *
  have cA : All (csA keyE mulE sumE a b c (encE A) (encE B) (encE C) (encE (eadd A B)) (encE (eadd B A)) (encE (eadd B C))) := by
    have hAB := eg.op_in hA hBb
    have hBC := eg.op_in hBb hC
    refine (All_append _ _).2 ⟨cT_ok (hkl a) (hk a).2 gB, (All_append _ _).2 ⟨cT_ok (hkl b) (hk b).2 gB, (All_append _ _).2 ⟨cT_ok (hkl c) (hk c).2 gB, (All_append _ _).2 ⟨cS_ok (gp_enc hA) (gp_enc hBb), (All_append _ _).2 ⟨cS_ok (gp_enc hBb) (gp_enc hA), (All_append _ _).2 ⟨cS_ok (gp_enc hBb) (gp_enc hC),
      (All_append _ _).2 ⟨⟨e32 _, e32 _, ?_, trivial⟩, (All_append _ _).2 ⟨cS_ok (gp_enc hAB) (gp_enc hC), (All_append _ _).2 ⟨cS_ok (gp_enc hA) (gp_enc hBC), cS_ok (gp_enc hA) gN⟩⟩⟩⟩⟩⟩⟩⟩⟩
    have e0 : eqS (encE (eadd A B)) (encE (eadd B A)) = true := eqS_of (by rw [eg.comm hA hBb])
    show ((bif false then true else !(eqS (encE (eadd A B)) (encE (eadd B A)))) == false) = true
    rw [e0]
    rfl
  have hAB := eg.op_in hA hBb
  have hBC := eg.op_in hBb hC
  have sL : encE (eadd (eadd A B) C) = qS' sumE (encE (eadd A B)) (encE C) := (hS hAB hC).symm
  have sR : encE (eadd A (eadd B C)) = qS' sumE (encE A) (encE (eadd B C)) := (hS hA hBC).symm
  have sO : encE A = qS' sumE (encE A) N0 := by
    rw [N0_eq, hS hA eZ_on, eg.comm hA eZ_on, eg.idl A hA]
  have eLR : eqS (encE (eadd (eadd A B) C)) (encE (eadd A (eadd B C))) = true := eqS_of (by rw [eg.assoc hA hBb hC])
  have eOX : eqS (encE A) (encE A) = true := eqS_of rfl
  by_cases h32 : lead (keyE a) < 32
  · obtain ⟨i1, i2, i3⟩ := inc h32
    have sB : qS' sumE (encE A) B0 = encE (eadd A eB) := by rw [B0_eq]; exact hS hA hB
    refine law7A g keyE mulE sumE a b c hE e1.symm e2.symm e3.symm (hS hA hBb).symm (hS hBb hA).symm (hS hBb hC).symm sL sR sO cA (hk a).1 h32 ?_ ?_ ?_ hs hg hok
    · have hl : (cgL (keyE a) (lead (keyE a))).length = 32 := by rw [cgL_len (by rw [(hk a).1]; omega), (hk a).1]
      have c1 : (0 : Int) ≤ (lead (keyE a) : Nat) := Int.natCast_nonneg _
      have c2 : ((lead (keyE a) : Nat) : Int) < (32 : Nat) := by omega
      have c3 : 32 ≤ (cgL (keyE a) (lead (keyE a))).length := by omega
      have c4 : 0 + lead (keyE a) < (cgL (keyE a) (lead (keyE a))).length := by omega
      exact ⟨c1, c2, c3, c4, c1, c2, c3, c4, trivial⟩
    · have gL := gp_enc (eg.op_in hAB hC)
      refine (All_append _ _).2 ⟨cT_ok i2 i3 gB, (All_append _ _).2 ⟨cS_ok (gp_enc hA) gB, gL.len, gL.b, gL.rd, rfl, e32 _, e32 _, ?_, e32 _, e32 _, ?_, ?_, ?_, trivial⟩⟩
      · show (_ == true) = true
        rw [eLR]; rfl
      · show (_ == true) = true
        rw [eOX]; rfl
      · show 32 ≤ _
        rw [i1]; exact e32 _
      · show 32 ≤ _
        rw [sB]; exact e32 _
    · rw [i1, sB]
      exact eqS_of rfl
  · have hk32 : lead (keyE a) = 32 := by
      have := lead_le (keyE a)
      rw [(hk a).1] at this
      omega
    exact law7B g keyE mulE sumE a b c hE e1.symm e2.symm e3.symm (hS hA hBb).symm (hS hBb hA).symm (hS hBb hC).symm sL sR sO cA (hk a).1 hk32 (e32 _) (e32 _) (e32 _) (e32 _) eLR eOX hs hg hok
end Go.Am.Sl
