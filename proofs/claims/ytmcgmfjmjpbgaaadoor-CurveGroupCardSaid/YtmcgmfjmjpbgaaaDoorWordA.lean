/- Part of the proof: WordA. -/
import Derived.Test.YtmcgmfjmjpbgaaaDoorProg
import Derived.Laws.Externs
import Derived.IntWalk
import Derived.Test.YtmcgmfjmjpbgaaaDoorMachD
set_option linter.unusedVariables false
set_option maxRecDepth 100000
/- THE PROGRAM: where it begins, what lies in its variables. -/
namespace Go.Am.Sl
open Go.Am Go.Proofs
noncomputable def P : Program := Tryd.prog
def moduliV : AVal := .agg [.md 0, .md 1, .md 2, .md 3]
def glob : Globs := [none, none, some moduliV]
noncomputable def env (l : List (FuncId × Spec)) : Env := ⟨P, glob, l⟩
def noO : Opn := ⟨[], []⟩
abbrev Ok (g : Nat) (f : FuncId) (F : Spec) : Prop := SpecOk P glob g f F
theorem env_nil (g : Nat) : EnvOk (env []) g := fun f F h => by cases h
theorem env_ok {P : Program} {G : Globs} {g : Nat} {l : List (FuncId × Spec)} {f : FuncId} {F : Spec} (h : SpecOk P G g f F) (hl : EnvOk ⟨P, G, l⟩ g) : EnvOk ⟨P, G, (f, F) :: l⟩ g := by
  intro f' F' hf
  simp only [lookS] at hf
  cases hb : Nat.beq f f' with
  | true =>
    simp only [hb, cond_true, Option.some.injEq] at hf
    subst hf
    rw [← Nat.eq_of_beq_eq_true hb]
    exact h
  | false =>
    simp only [hb, cond_false] at hf
    exact hl f' F' hf

theorem env_cons {g : Nat} {l : List (FuncId × Spec)} {f : FuncId} {F : Spec} (h : Ok g f F) (hl : EnvOk (env l) g) : EnvOk (env ((f, F) :: l)) g := env_ok h hl
end Go.Am.Sl
/- WORDS: numbers of four words of 64 bits -/
namespace Go.Am.Sl
open Go.Am
def addS (x y c : Int) : Nat := (x.toNat + y.toNat + c.toNat) % 2 ^ 64
def addC (x y c : Int) : Nat := (x.toNat + y.toNat + c.toNat) / 2 ^ 64
def subS (x y c : Int) : Nat := (2 ^ 64 + x.toNat - y.toNat - c.toNat) % 2 ^ 64
def subC (x y c : Int) : Nat := if x.toNat < y.toNat + c.toNat then 1 else 0
def mulH (x y : Int) : Nat := x.toNat * y.toNat / 2 ^ 64
def mulL (x y : Int) : Nat := x.toNat * y.toNat % 2 ^ 64
theorem limb_nat (n i : Nat) : (limb n i).toNat = n / 2 ^ (64 * i) % 2 ^ 64 := rfl
theorem limb_lt (n i : Nat) : (limb n i).toNat < 2 ^ 64 := Nat.mod_lt _ (by decide)
theorem limb_def (n i : Nat) : limb n i = ((n / 2 ^ (64 * i) % 2 ^ 64 : Nat) : Int) := rfl
theorem toNat_cast (n : Nat) : ((n : Nat) : Int).toNat = n := rfl
theorem pw_succ (i : Nat) : 2 ^ (64 * (i + 1)) = 2 ^ (64 * i) * 2 ^ 64 := by rw [Nat.mul_add, Nat.pow_add]
theorem pw_pos (i : Nat) : 0 < 2 ^ (64 * i) := Nat.pow_pos (by decide)
theorem div_sum (a b B : Nat) (hB : 0 < B) : (a + b) / B = (a % B + b % B) / B + (a / B + b / B) := by
  have h1 := Nat.div_add_mod a B
  have h2 := Nat.div_add_mod b B
  have : a + b = (a % B + b % B) + B * (a / B + b / B) := by rw [Nat.mul_add]; omega
  rw [this, Nat.add_mul_div_left _ _ hB]
theorem carry_step (a b B W : Nat) (hB : 0 < B) : (a / B % W + b / B % W + (a % B + b % B) / B) / W = (a % (B * W) + b % (B * W)) / (B * W) := by
  have e1 : a % (B * W) = a % B + B * (a / B % W) := Nat.mod_mul
  have e2 : b % (B * W) = b % B + B * (b / B % W) := Nat.mod_mul
  rw [← Nat.div_div_eq_div_mul, e1, e2]
  congr 1
  have : a % B + B * (a / B % W) + (b % B + B * (b / B % W)) = (a % B + b % B) + B * (a / B % W + b / B % W) := by rw [Nat.mul_add]; omega
  rw [this, Nat.add_mul_div_left _ _ hB]
  omega
theorem sum_word (a b B W : Nat) (hB : 0 < B) : (a / B % W + b / B % W + (a % B + b % B) / B) % W = (a + b) / B % W := by
  rw [div_sum a b B hB]
  generalize (a % B + b % B) / B = c
  generalize a / B = x
  generalize b / B = y
  rw [Nat.add_comm c (x + y)]
  simp [Nat.add_mod]
/- SUMS -/
/-- the carries of a sum -/
def cyA (a b : Nat) : Nat → Int
  | 0 => 0
  | i + 1 => addC (limb a i) (limb b i) (cyA a b i)
theorem cyA_nat (a b : Nat) : ∀ i, (cyA a b i).toNat = (a % 2 ^ (64 * i) + b % 2 ^ (64 * i)) / 2 ^ (64 * i)
  | 0 => by simp [cyA, Nat.mod_one]
  | i + 1 => by
    simp only [cyA, addC, toNat_cast, limb_nat]
    rw [cyA_nat a b i, pw_succ]
    exact carry_step a b _ _ (pw_pos i)
theorem addS_limb (a b i : Nat) : addS (limb a i) (limb b i) (cyA a b i) = (a + b) / 2 ^ (64 * i) % 2 ^ 64 := by
  simp only [addS, limb_nat, cyA_nat]
  exact sum_word a b _ _ (pw_pos i)
theorem cyA_le (a b i : Nat) : (cyA a b i).toNat ≤ 1 := by
  rw [cyA_nat]
  have h1 := Nat.mod_lt a (pw_pos i)
  have h2 := Nat.mod_lt b (pw_pos i)
  rw [← Nat.lt_succ_iff, Nat.div_lt_iff_lt_mul (pw_pos i)]
  omega
theorem cyA_4 (a b : Nat) (ha : a < 2 ^ 256) (hb : b < 2 ^ 256) : (cyA a b 4).toNat = (a + b) / 2 ^ 256 := by
  rw [cyA_nat]
  rw [Nat.mod_eq_of_lt ha, Nat.mod_eq_of_lt hb]
/- DIFFERENCES -/
def bwA (a b : Nat) : Nat → Int
  | 0 => 0
  | i + 1 => subC (limb a i) (limb b i) (bwA a b i)
theorem borrow_step (a b B W : Nat) (hB : 0 < B) : (if a / B % W < b / B % W + (if a % B < b % B then 1 else 0) then 1 else 0) = if a % (B * W) < b % (B * W) then 1 else 0 := by
  have e1 : a % (B * W) = a % B + B * (a / B % W) := Nat.mod_mul
  have e2 : b % (B * W) = b % B + B * (b / B % W) := Nat.mod_mul
  rw [e1, e2]
  have h1 := Nat.mod_lt a hB
  have h2 := Nat.mod_lt b hB
  generalize a % B = a0 at *
  generalize b % B = b0 at *
  generalize a / B % W = a1
  generalize b / B % W = b1
  rcases Nat.lt_trichotomy a1 b1 with h | rfl | h
  · have h3 : B * (a1 + 1) ≤ B * b1 := Nat.mul_le_mul_left _ h
    rw [Nat.mul_add] at h3
    rw [if_pos (show a0 + B * a1 < b0 + B * b1 by omega)]
    exact if_pos (by omega)
  · by_cases h4 : a0 < b0
    · rw [if_pos h4, if_pos (by omega), if_pos (by omega)]
    · rw [if_neg h4, if_neg (by omega), if_neg (by omega)]
  · have h3 : B * (b1 + 1) ≤ B * a1 := Nat.mul_le_mul_left _ h
    rw [Nat.mul_add] at h3
    rw [if_neg (show ¬ a0 + B * a1 < b0 + B * b1 by omega)]
    exact if_neg (by split <;> omega)
theorem bwA_nat (a b : Nat) : ∀ i, (bwA a b i).toNat = if a % 2 ^ (64 * i) < b % 2 ^ (64 * i) then 1 else 0
  | 0 => by simp [bwA, Nat.mod_one]
  | i + 1 => by
    simp only [bwA, subC, toNat_cast, limb_nat]
    rw [bwA_nat a b i, pw_succ]
    exact borrow_step a b _ _ (pw_pos i)
theorem diff_word (a b B W M : Nat) (hB : 0 < B) (hW : 0 < W) (hM : B * W ∣ M) (hb : b ≤ M) : (a / B % W + W - b / B % W - (if a % B < b % B then 1 else 0)) % W = (a + (M - b)) / B % W := by
  obtain ⟨k, rfl⟩ := hM
  have h1 := Nat.div_add_mod a B
  have h2 := Nat.div_add_mod b B
  have h3 := Nat.mod_lt a hB
  have h4 := Nat.mod_lt b hB
  have h5 : b / B ≤ W * k := by
    apply Nat.div_le_of_le_mul
    rw [← Nat.mul_assoc]
    exact hb
  have e : (a + (B * W * k - b)) / B = a / B + (W * k - b / B) - (if a % B < b % B then 1 else 0) := by
    generalize a / B = x at *
    generalize b / B = y at *
    generalize a % B = a0 at *
    generalize b % B = b0 at *
    have hbm : B * y ≤ B * (W * k) := Nat.mul_le_mul_left _ h5
    have e1 : a + (B * W * k - b) = (a0 + B * x) + (B * (W * k) - (B * y + b0)) := by rw [← Nat.mul_assoc]; omega
    rw [e1]
    split
    · rename_i hlt
      have hyk : y < W * k := by
        rcases Nat.lt_or_ge y (W * k) with h | h
        · exact h
        · have : B * (W * k) ≤ B * y := Nat.mul_le_mul_left _ h
          rw [Nat.mul_assoc] at hb
          omega
      have e2 : (a0 + B * x) + (B * (W * k) - (B * y + b0)) = (a0 + B - b0) + B * (x + (W * k - y) - 1) := by
        have : B * (y + 1) ≤ B * (W * k) := Nat.mul_le_mul_left _ hyk
        rw [Nat.mul_sub, Nat.mul_add, Nat.mul_sub]
        rw [Nat.mul_add] at this
        omega
      rw [e2, Nat.add_mul_div_left _ _ hB, Nat.div_eq_of_lt (by omega)]
      omega
    · rename_i hge
      have e2 : (a0 + B * x) + (B * (W * k) - (B * y + b0)) = (a0 - b0) + B * (x + (W * k - y)) := by
        rw [Nat.mul_add, Nat.mul_sub]
        rw [Nat.mul_assoc] at hb
        omega
      rw [e2, Nat.add_mul_div_left _ _ hB, Nat.div_eq_of_lt (by omega)]
      omega
  rw [e]
  generalize a / B = x at *
  generalize b / B = y at *
  generalize hc : (if a % B < b % B then 1 else 0) = c
  have hc1 : c ≤ 1 := by rw [← hc]; split <;> omega
  have hc2 : c ≤ x + (W * k - y) := by
    rcases Nat.eq_zero_or_pos (x + (W * k - y)) with h0 | h0
    · have hx : x = 0 := by omega
      have hy : y = W * k := by omega
      rw [← hc]
      split
      · rename_i hlt
        subst hx
        rw [hy] at h2
        rw [← Nat.mul_assoc] at h2
        omega
      · omega
    · omega
  have hx := Nat.mod_lt x hW
  have hy := Nat.mod_lt y hW
  -- both are x - y - c modulo W
  have dx := Nat.div_add_mod x W
  have dy := Nat.div_add_mod y W
  have e3 : x + (W * k - y) - c = (x % W + W - y % W - c) + W * (x / W + k - y / W) - W := by
    have : W * (y / W) ≤ W * k := by omega
    have h6 : y / W ≤ k := Nat.le_of_mul_le_mul_left this hW
    rw [Nat.add_sub_assoc h6, Nat.mul_add, Nat.mul_sub]
    omega
  rcases Nat.eq_zero_or_pos (x / W + k - y / W) with h0 | h0
  · rw [h0, Nat.mul_zero, Nat.add_zero] at e3
    rw [e3]
    have : x / W + k - y / W = 0 := h0
    have h7 : W * (x / W) + W * k - W * (y / W) = 0 := by
      rw [← Nat.mul_add, ← Nat.mul_sub, h0, Nat.mul_zero]
    have h8 : W ≤ x % W + W - y % W - c := by omega
    rw [Nat.mod_eq_sub_mod h8]
  · obtain ⟨j, hj⟩ := Nat.exists_eq_succ_of_ne_zero (Nat.ne_of_gt h0)
    rw [hj, Nat.mul_succ, ← Nat.add_assoc, Nat.add_sub_cancel] at e3
    rw [e3, Nat.add_mul_mod_self_left]
theorem subS_limb (a b i : Nat) (hi : i < 4) (hb : b ≤ 2 ^ 256) : subS (limb a i) (limb b i) (bwA a b i) = (a + (2 ^ 256 - b)) / 2 ^ (64 * i) % 2 ^ 64 := by
  simp only [subS, limb_nat, bwA_nat]
  rw [Nat.add_comm (2 ^ 64)]
  refine diff_word a b _ _ (2 ^ 256) (pw_pos i) (by decide) ?_ hb
  rw [← Nat.pow_add]
  exact Nat.pow_dvd_pow 2 (by omega)
theorem bwA_le (a b i : Nat) : (bwA a b i).toNat ≤ 1 := by
  rw [bwA_nat]
  split <;> omega
theorem bwA_4 (a b : Nat) (ha : a < 2 ^ 256) (hb : b < 2 ^ 256) : (bwA a b 4).toNat = if a < b then 1 else 0 := by
  rw [bwA_nat]
  rw [Nat.mod_eq_of_lt ha, Nat.mod_eq_of_lt hb]
end Go.Am.Sl
namespace Go.Am.Sl
open Go.Am Go.Proofs
/- WORDS: sums, differences, products -/
def u64 (n : Nat) : AVal := .int .u64 n
def fAdd64 : Spec := fun args H =>
  match args, H with
  | [.int .u64 x, .int .u64 y, .int .u64 c], [] => some (.tuple [u64 (addS x y c), u64 (addC x y c)], [], [.le c.toNat 1])
  | _, _ => none
def fSub64 : Spec := fun args H =>
  match args, H with
  | [.int .u64 x, .int .u64 y, .int .u64 c], [] => some (.tuple [u64 (subS x y c), u64 (subC x y c)], [], [.le c.toNat 1])
  | _, _ => none
def fMul64 : Spec := fun args H =>
  match args, H with
  | [.int .u64 x, .int .u64 y], [] => some (.tuple [u64 (mulH x y), u64 (mulL x y)], [], [.ile 0 x, .ilt x (2 ^ 64), .ile 0 y, .ilt y (2 ^ 64)])
  | _, _ => none
def addE : Array Value → Sem Value := fun args => do
  let (x, y, c) ← Extern.MathBitsCarry.three "Add64" args
  pure (Extern.MathBitsCarry.pair ((x + y + c) % Extern.MathBitsCarry.m64) ((x + y + c) / Extern.MathBitsCarry.m64))
def subE : Array Value → Sem Value := fun args => do
  let (x, y, b) ← Extern.MathBitsCarry.three "Sub64" args
  pure (Extern.MathBitsCarry.pair ((x + Extern.MathBitsCarry.m64 - y - b) % Extern.MathBitsCarry.m64) (if x < y + b then 1 else 0))
theorem three_run (name : String) (x y c : Int) (h : c.toNat ≤ 1) (P : Program) (w : World) : (Extern.MathBitsCarry.three name #[.int .u64 x, .int .u64 y, .int .u64 c]).run P w = .ok (x.toNat, y.toNat, c.toNat) w := by
  unfold Extern.MathBitsCarry.three
  refine run_bindq (v := c) rfl ?_
  rw [if_neg (by omega)]
  refine run_bindq (v := x) rfl ?_
  refine run_bindq (v := y) rfl ?_
  rfl
theorem okAdd64 (g : Nat) : Ok g 234 fAdd64 := by
  intro args H r H' c h hc L w hs hg hok
  unfold fAdd64 at h
  split at h
  case h_2 => cases h
  rename_i x y cc
  simp only [Option.some.injEq, Prod.mk.injEq] at h
  obtain ⟨rfl, rfl, rfl⟩ := h
  have h1 : cc.toNat ≤ 1 := hc.1
  have hr : (callFunc 234 (AVal.concs L [.int .u64 x, .int .u64 y, .int .u64 cc]).toArray).run P w = .ok (.value (AVal.conc L (.tuple [u64 (addS x y cc), u64 (addC x y cc)]))) w := by
    show (callFunc 234 #[.int .u64 x, .int .u64 y, .int .u64 cc]).run Tryd.prog w = _
    rw [run_callFunc_extern Tryd.func234 (by kernel_rfl) (by kernel_rfl) (by kernel_rfl) (e := addE) (by kernel_rfl)]
    unfold addE
    rw [Sem.run_bind, three_run "Add64" x y cc h1]
    rfl
  unfold CallF
  rw [hr]
  exact ⟨L, rfl, Step.refl hs, trivial, trivial, trivial⟩
theorem okSub64 (g : Nat) : Ok g 235 fSub64 := by
  intro args H r H' c h hc L w hs hg hok
  unfold fSub64 at h
  split at h
  case h_2 => cases h
  rename_i x y cc
  simp only [Option.some.injEq, Prod.mk.injEq] at h
  obtain ⟨rfl, rfl, rfl⟩ := h
  have h1 : cc.toNat ≤ 1 := hc.1
  have hr : (callFunc 235 (AVal.concs L [.int .u64 x, .int .u64 y, .int .u64 cc]).toArray).run P w = .ok (.value (AVal.conc L (.tuple [u64 (subS x y cc), u64 (subC x y cc)]))) w := by
    show (callFunc 235 #[.int .u64 x, .int .u64 y, .int .u64 cc]).run Tryd.prog w = _
    rw [run_callFunc_extern Tryd.func235 (by kernel_rfl) (by kernel_rfl) (by kernel_rfl) (e := subE) (by kernel_rfl)]
    unfold subE
    rw [Sem.run_bind, three_run "Sub64" x y cc h1]
    have e : subS x y cc = (x.toNat + 2 ^ 64 - y.toNat - cc.toNat) % 2 ^ 64 := by rw [subS, Nat.add_comm (2 ^ 64)]
    rw [e]
    rfl
  unfold CallF
  rw [hr]
  exact ⟨L, rfl, Step.refl hs, trivial, trivial, trivial⟩
/- the product of two words, by halves -/
def rMul (x y : Int) : AVal :=
  .tuple [.int .u64
    (IntKind.wrap IntKind.u64
      (IntKind.wrap IntKind.u64 (IntKind.wrap IntKind.u64 (Int.fdiv x 4294967296 * Int.fdiv y 4294967296) +
          Int.fdiv (IntKind.wrap IntKind.u64 (IntKind.wrap IntKind.u64 (Int.fdiv x 4294967296 * bitsI BinOp.and IntKind.u64 y 4294967295) +
              Int.fdiv (IntKind.wrap IntKind.u64 (bitsI BinOp.and IntKind.u64 x 4294967295 * bitsI BinOp.and IntKind.u64 y 4294967295)) 4294967296)) 4294967296) +
        Int.fdiv (IntKind.wrap IntKind.u64 (bitsI BinOp.and IntKind.u64
              (IntKind.wrap IntKind.u64 (IntKind.wrap IntKind.u64 (Int.fdiv x 4294967296 * bitsI BinOp.and IntKind.u64 y 4294967295) +
                  Int.fdiv (IntKind.wrap IntKind.u64 (bitsI BinOp.and IntKind.u64 x 4294967295 * bitsI BinOp.and IntKind.u64 y 4294967295)) 4294967296))
              4294967295 +
            IntKind.wrap IntKind.u64 (bitsI BinOp.and IntKind.u64 x 4294967295 * Int.fdiv y 4294967296))) 4294967296)),
    .int .u64 (IntKind.wrap IntKind.u64 (x * y))]
theorem wrapu (a : Nat) : IntKind.u64.wrap (a : Int) = ((a % 2 ^ 64 : Nat) : Int) := by
  have : IntKind.u64.wrap (a : Int) = (a : Int) % 2 ^ 64 := by
    unfold IntKind.wrap
    exact if_neg (by rintro h; cases h)
  rw [this]
  norm_cast
theorem mask32 (a : Nat) (ha : a < 2 ^ 64) : bitsI .and .u64 (a : Int) 4294967295 = ((a % 2 ^ 32 : Nat) : Int) := by
  have : (BitVec.ofInt 64 (a : Int) &&& BitVec.ofInt 64 4294967295).toNat = a % 2 ^ 32 := by
    rw [BitVec.toNat_and]
    have e1 : (BitVec.ofInt 64 (a : Int)).toNat = a := by
      rw [BitVec.toNat_ofInt]
      have : ((a : Int) % ((2 ^ 64 : Nat) : Int)).toNat = a % 2 ^ 64 := by norm_cast
      rw [this, Nat.mod_eq_of_lt ha]
    have e2 : (BitVec.ofInt 64 4294967295).toNat = 2 ^ 32 - 1 := by decide
    rw [e1, e2, Nat.and_two_pow_sub_one_eq_mod]
  show IntKind.u64.wrap (((BitVec.ofInt 64 (a : Int) &&& BitVec.ofInt 64 4294967295).toNat : Nat) : Int) = _
  rw [this, wrapu, Nat.mod_eq_of_lt]
  have h2 : a % 2 ^ 32 < 2 ^ 32 := Nat.mod_lt _ (by decide)
  omega
theorem fdiv32 (a : Nat) : Int.fdiv (a : Int) 4294967296 = ((a / 2 ^ 32 : Nat) : Int) := by
  rw [Int.fdiv_eq_ediv_of_nonneg _ (by decide)]
  exact (Int.natCast_ediv a 4294967296).symm
theorem mul_law (x y : Nat) (hx : x < 2 ^ 64) (hy : y < 2 ^ 64) : rMul x y = .tuple [u64 (mulH x y), u64 (mulL x y)] := by
  have hxl : x % 2 ^ 32 < 2 ^ 32 := Nat.mod_lt _ (by decide)
  have hyl : y % 2 ^ 32 < 2 ^ 32 := Nat.mod_lt _ (by decide)
  have hxh : x / 2 ^ 32 < 2 ^ 32 := by omega
  have hyh : y / 2 ^ 32 < 2 ^ 32 := by omega
  have b1 := Nat.mul_le_mul (Nat.le_sub_one_of_lt hxh) (Nat.le_sub_one_of_lt hyl)
  have b2 := Nat.mul_le_mul (Nat.le_sub_one_of_lt hxl) (Nat.le_sub_one_of_lt hyl)
  have b3 := Nat.mul_le_mul (Nat.le_sub_one_of_lt hxh) (Nat.le_sub_one_of_lt hyh)
  have b4 := Nat.mul_le_mul (Nat.le_sub_one_of_lt hxl) (Nat.le_sub_one_of_lt hyh)
  have dx := Nat.div_add_mod x (2 ^ 32)
  have dy := Nat.div_add_mod y (2 ^ 32)
  have hprod : x * y = 2 ^ 64 * (x / 2 ^ 32 * (y / 2 ^ 32)) + 2 ^ 32 * (x / 2 ^ 32 * (y % 2 ^ 32) + x % 2 ^ 32 * (y / 2 ^ 32)) + x % 2 ^ 32 * (y % 2 ^ 32) := by
    conv => lhs; rw [← dx, ← dy]
    generalize x / 2 ^ 32 = a
    generalize x % 2 ^ 32 = b
    generalize y / 2 ^ 32 = c
    generalize y % 2 ^ 32 = d
    grind
  simp only [rMul, u64, mulH, mulL, toNat_cast, AVal.tuple.injEq, List.cons.injEq, AVal.int.injEq, true_and, and_true]
  rw [mask32 x hx, mask32 y hy]
  simp only [fdiv32, ← Int.natCast_mul]
  constructor
  · simp only [wrapu, fdiv32, ← Int.natCast_add]
    rw [mask32 _ (Nat.mod_lt _ (by decide))]
    simp only [wrapu, fdiv32, ← Int.natCast_add]
    congr 1
    generalize x / 2 ^ 32 * (y / 2 ^ 32) = hh at *
    generalize x / 2 ^ 32 * (y % 2 ^ 32) = hl at *
    generalize x % 2 ^ 32 * (y / 2 ^ 32) = lh at *
    generalize x % 2 ^ 32 * (y % 2 ^ 32) = ll at *
    rw [hprod]
    clear hprod dx dy
    omega
  · rw [wrapu]
theorem okMul64 (g : Nat) : Ok g 236 fMul64 := by
  intro args H r H' c h hc L w hs hg hok
  unfold fMul64 at h
  split at h
  case h_2 => cases h
  rename_i x y
  simp only [Option.some.injEq, Prod.mk.injEq] at h
  obtain ⟨rfl, rfl, rfl⟩ := h
  obtain ⟨h1, h2, h3, h4, _⟩ := hc
  have h1 : (0 : Int) ≤ x := h1
  have h2 : x < 2 ^ 64 := h2
  have h3 : (0 : Int) ≤ y := h3
  have h4 : y < 2 ^ 64 := h4
  obtain ⟨x, rfl⟩ := Int.eq_ofNat_of_zero_le h1
  obtain ⟨y, rfl⟩ := Int.eq_ofNat_of_zero_le h3
  rw [← mul_law x y (by omega) (by omega)]
  exact callF_of (E := env []) (env_nil g) (O := noO) (B := []) (n := 40) (path := []) Tryd.func236 (by kernel_rfl) (c := bodyOf Tryd.f236) (by kernel_rfl) (blocksOk_nil _) (by kernel_rfl) (by kernel_rfl) (cs := []) trivial hs hg hok
end Go.Am.Sl
/- WORDS: a row of a product -/
namespace Go.Am.Sl
open Go.Am
/-- four words as a number -/
def num4 (t0 t1 t2 t3 : Int) : Nat := t0.toNat + 2 ^ 64 * (t1.toNat + 2 ^ 64 * (t2.toNat + 2 ^ 64 * t3.toNat))
theorem num4_limb (n : Nat) : num4 (limb n 0) (limb n 1) (limb n 2) (limb n 3) = n % 2 ^ 256 := by
  simp only [num4, limb_nat]
  have e : ∀ i, n / 2 ^ (64 * i) = n / 2 ^ (64 * i) := fun _ => rfl
  have h1 := Nat.div_add_mod n (2 ^ 64)
  have h2 := Nat.div_add_mod (n / 2 ^ 64) (2 ^ 64)
  have h3 := Nat.div_add_mod (n / 2 ^ 64 / 2 ^ 64) (2 ^ 64)
  have h4 := Nat.div_add_mod (n / 2 ^ 64 / 2 ^ 64 / 2 ^ 64) (2 ^ 64)
  have e0 : n / 2 ^ (64 * 0) = n := by simp
  have e1 : n / 2 ^ (64 * 1) = n / 2 ^ 64 := rfl
  have e2 : n / 2 ^ (64 * 2) = n / 2 ^ 64 / 2 ^ 64 := by rw [Nat.div_div_eq_div_mul]
  have e3 : n / 2 ^ (64 * 3) = n / 2 ^ 64 / 2 ^ 64 / 2 ^ 64 := by rw [Nat.div_div_eq_div_mul, Nat.div_div_eq_div_mul]
  have e4 : n % 2 ^ 256 = n % (2 ^ 64 * (2 ^ 64 * (2 ^ 64 * 2 ^ 64))) := rfl
  rw [e0, e1, e2, e3, e4, Nat.mod_mul, Nat.mod_mul, Nat.mod_mul]
theorem limb_num4 {t0 t1 t2 t3 : Int} (h0 : 0 ≤ t0) (g0 : t0 < 2 ^ 64) (h1 : 0 ≤ t1) (g1 : t1 < 2 ^ 64) (h2 : 0 ≤ t2) (g2 : t2 < 2 ^ 64) (h3 : 0 ≤ t3) (g3 : t3 < 2 ^ 64) :
    limb (num4 t0 t1 t2 t3) 0 = t0 ∧ limb (num4 t0 t1 t2 t3) 1 = t1 ∧ limb (num4 t0 t1 t2 t3) 2 = t2 ∧ limb (num4 t0 t1 t2 t3) 3 = t3 ∧ num4 t0 t1 t2 t3 < 2 ^ 256 := by
  obtain ⟨a, rfl⟩ := Int.eq_ofNat_of_zero_le h0
  obtain ⟨b, rfl⟩ := Int.eq_ofNat_of_zero_le h1
  obtain ⟨c, rfl⟩ := Int.eq_ofNat_of_zero_le h2
  obtain ⟨d, rfl⟩ := Int.eq_ofNat_of_zero_le h3
  simp only [num4, limb_def, toNat_cast]
  have ga : a < 2 ^ 64 := by omega
  have gb : b < 2 ^ 64 := by omega
  have gc : c < 2 ^ 64 := by omega
  have gd : d < 2 ^ 64 := by omega
  have e1 : ∀ n, n / 2 ^ (64 * 1) = n / 2 ^ 64 := fun _ => rfl
  have e2 : ∀ n, n / 2 ^ (64 * 2) = n / 2 ^ 64 / 2 ^ 64 := fun n => by rw [Nat.div_div_eq_div_mul]
  have e3 : ∀ n, n / 2 ^ (64 * 3) = n / 2 ^ 64 / 2 ^ 64 / 2 ^ 64 := fun n => by rw [Nat.div_div_eq_div_mul, Nat.div_div_eq_div_mul]
  rw [e1, e2, e3]
  simp only [Nat.mul_zero, Nat.pow_zero, Nat.div_one]
  refine ⟨congrArg Nat.cast ?_, congrArg Nat.cast ?_, congrArg Nat.cast ?_, congrArg Nat.cast ?_, ?_⟩ <;> omega
/-- the carries of a row: T + x n, word by word -/
def cR (T x n : Nat) : Nat → Nat
  | 0 => 0
  | i + 1 => (T / 2 ^ (64 * i) % 2 ^ 64 + x * (n / 2 ^ (64 * i) % 2 ^ 64) + cR T x n i) / 2 ^ 64
theorem cR_eq (T x n : Nat) : ∀ i, cR T x n i = (T % 2 ^ (64 * i) + x * (n % 2 ^ (64 * i))) / 2 ^ (64 * i)
  | 0 => by simp [cR, Nat.mod_one]
  | i + 1 => by
    simp only [cR]
    rw [cR_eq T x n i, pw_succ]
    have hB := pw_pos i
    generalize 2 ^ (64 * i) = B at *
    have e1 : T % (B * 2 ^ 64) = T % B + B * (T / B % 2 ^ 64) := Nat.mod_mul
    have e2 : n % (B * 2 ^ 64) = n % B + B * (n / B % 2 ^ 64) := Nat.mod_mul
    rw [← Nat.div_div_eq_div_mul, e1, e2]
    congr 1
    have : T % B + B * (T / B % 2 ^ 64) + x * (n % B + B * (n / B % 2 ^ 64)) = (T % B + x * (n % B)) + B * (T / B % 2 ^ 64 + x * (n / B % 2 ^ 64)) := by grind
    rw [this, Nat.add_mul_div_left _ _ hB]
    omega
theorem cR_word (T x n i : Nat) : (T / 2 ^ (64 * i) % 2 ^ 64 + x * (n / 2 ^ (64 * i) % 2 ^ 64) + cR T x n i) % 2 ^ 64 = (T + x * n) / 2 ^ (64 * i) % 2 ^ 64 := by
  rw [cR_eq]
  have hB := pw_pos i
  generalize 2 ^ (64 * i) = B at *
  have h1 := Nat.div_add_mod T B
  have h2 := Nat.div_add_mod n B
  have e : (T + x * n) / B = (T % B + x * (n % B)) / B + (T / B + x * (n / B)) := by
    have : T + x * n = (T % B + x * (n % B)) + B * (T / B + x * (n / B)) := by
      conv => lhs; rw [← h1, ← h2]
      grind
    conv => lhs; rw [this]
    rw [Nat.add_mul_div_left _ _ hB]
  rw [e]
  generalize (T % B + x * (n % B)) / B = c
  generalize T / B = u
  generalize n / B = v
  rw [Nat.add_comm c]
  simp [Nat.add_mod, Nat.mul_mod]
theorem cR_lt (T x n : Nat) (hx : x < 2 ^ 64) (i : Nat) : cR T x n i < 2 ^ 64 := by
  rw [cR_eq]
  have hB := pw_pos i
  generalize 2 ^ (64 * i) = B at *
  rw [Nat.div_lt_iff_lt_mul hB]
  have h1 := Nat.mod_lt T hB
  have h2 := Nat.mod_lt n hB
  obtain ⟨b, rfl⟩ : ∃ b, B = b + 1 := ⟨B - 1, by omega⟩
  have h3 : x * (n % (b + 1)) ≤ (2 ^ 64 - 1) * b := Nat.mul_le_mul (by omega) (by omega)
  generalize x * (n % (b + 1)) = y at *
  omega
/-- the same, as the code reckons it -/
def crI (t : Nat → Int) (x : Int) (n : Nat) : Nat → Int
  | 0 => 0
  | i + 1 => IntKind.wrap .u64 (IntKind.wrap .u64 ((mulH x (limb n i) : Nat) + (addC (mulL x (limb n i) : Nat) (crI t x n i) 0 : Nat)) + (addC (t i) (addS (mulL x (limb n i) : Nat) (crI t x n i) 0 : Nat) 0 : Nat))
def tnI (t : Nat → Int) (x : Int) (n : Nat) (i : Nat) : Int := (addS (t i) (addS (mulL x (limb n i) : Nat) (crI t x n i) 0 : Nat) 0 : Nat)
theorem row_step (t p c : Nat) (ht : t < 2 ^ 64) (hc : c < 2 ^ 64) (hp : p ≤ (2 ^ 64 - 1) * (2 ^ 64 - 1)) :
    ((p / 2 ^ 64 + (p % 2 ^ 64 + c + 0) / 2 ^ 64) % 2 ^ 64 + (t + (p % 2 ^ 64 + c + 0) % 2 ^ 64 + 0) / 2 ^ 64) % 2 ^ 64 = (t + p + c) / 2 ^ 64 ∧ (t + (p % 2 ^ 64 + c + 0) % 2 ^ 64 + 0) % 2 ^ 64 = (t + p + c) % 2 ^ 64 := by
  omega
theorem crI_eq {T x n : Nat} (hx : x < 2 ^ 64) : ∀ i, crI (limb T) x n i = (cR T x n i : Nat)
  | 0 => rfl
  | i + 1 => by
    simp only [crI, cR, crI_eq hx i, addC, addS, mulH, mulL, toNat_cast, limb_nat, Int.toNat_zero]
    rw [← Int.natCast_add, wrapu, ← Int.natCast_add, wrapu]
    congr 1
    have hp : x * (n / 2 ^ (64 * i) % 2 ^ 64) ≤ (2 ^ 64 - 1) * (2 ^ 64 - 1) := Nat.mul_le_mul (by omega) (by have := Nat.mod_lt (n / 2 ^ (64 * i)) (show 0 < 2 ^ 64 by decide); omega)
    exact (row_step (T / 2 ^ (64 * i) % 2 ^ 64) _ (cR T x n i) (Nat.mod_lt _ (by decide)) (cR_lt T x n hx i) hp).1
theorem tnI_eq {T x n : Nat} (hx : x < 2 ^ 64) (i : Nat) : tnI (limb T) x n i = limb (T + x * n) i := by
  simp only [tnI, crI_eq hx, addS, mulL, toNat_cast, limb_def, Int.toNat_zero]
  congr 1
  have hp : x * (n / 2 ^ (64 * i) % 2 ^ 64) ≤ (2 ^ 64 - 1) * (2 ^ 64 - 1) := Nat.mul_le_mul (by omega) (by have := Nat.mod_lt (n / 2 ^ (64 * i)) (show 0 < 2 ^ 64 by decide); omega)
  rw [(row_step (T / 2 ^ (64 * i) % 2 ^ 64) _ (cR T x n i) (Nat.mod_lt _ (by decide)) (cR_lt T x n hx i) hp).2]
  exact cR_word T x n i
end Go.Am.Sl
/- WORDS: Montgomery's product -/
namespace Go.Am.Sl
open Go.Am
theorem Pk_all {p : Nat → Nat → Prop} (h0 : p (Pk 0) (negK 0)) (h1 : p (Pk 1) (negK 1)) (h2 : p (Pk 2) (negK 2)) (h3 : p (Pk 3) (negK 3)) : ∀ k, p (Pk k) (negK k)
  | 0 => h0
  | 1 => h1
  | 2 => h2
  | _ + 3 => h3
theorem Pk_neg (k : Nat) : (negK k * Pk k + 1) % 2 ^ 64 = 0 := Pk_all (p := fun p n => (n * p + 1) % 2 ^ 64 = 0) (by decide +kernel) (by decide +kernel) (by decide +kernel) (by decide +kernel) k
theorem Pk_lt (k : Nat) : Pk k < 2 ^ 256 := Pk_all (p := fun p n => p < 2 ^ 256) (by decide +kernel) (by decide +kernel) (by decide +kernel) (by decide +kernel) k
theorem Pk_gt (k : Nat) : 2 ^ 252 < Pk k := Pk_all (p := fun p n => 2 ^ 252 < p) (by decide +kernel) (by decide +kernel) (by decide +kernel) (by decide +kernel) k
theorem negK_lt (k : Nat) : negK k < 2 ^ 64 := Pk_all (p := fun p n => n < 2 ^ 64) (by decide +kernel) (by decide +kernel) (by decide +kernel) (by decide +kernel) k
/-- the word that makes the lowest word vanish -/
def mw (k u : Nat) : Nat := u % 2 ^ 64 * negK k % 2 ^ 64
/-- one round -/
def mR (k b T x : Nat) : Nat := (T + x * b + mw k (T + x * b) * Pk k) / 2 ^ 64
def mT (k a b : Nat) : Nat → Nat
  | 0 => 0
  | i + 1 => mR k b (mT k a b i) (a / 2 ^ (64 * i) % 2 ^ 64)
theorem mw_lt (k u : Nat) : mw k u < 2 ^ 64 := Nat.mod_lt _ (by decide)
theorem mw_dvd (k u : Nat) : 2 ^ 64 ∣ u + mw k u * Pk k := by
  apply Nat.dvd_of_mod_eq_zero
  have h := Pk_neg k
  unfold mw
  rw [Nat.add_mod, Nat.mul_mod, Nat.mod_mod, ← Nat.mul_mod]
  have e : u % 2 ^ 64 * negK k * Pk k = u % 2 ^ 64 * (negK k * Pk k) := Nat.mul_assoc _ _ _
  rw [e, ← Nat.mod_mod u (2 ^ 64), ← Nat.add_mod, Nat.mod_mod]
  have e2 : u % 2 ^ 64 + u % 2 ^ 64 * (negK k * Pk k) = u % 2 ^ 64 * (negK k * Pk k + 1) := by rw [Nat.mul_add, Nat.mul_one, Nat.add_comm]
  rw [e2, Nat.mul_mod, h, Nat.mul_zero, Nat.zero_mod]
theorem mR_eq (k b T x : Nat) : mR k b T x * 2 ^ 64 = T + x * b + mw k (T + x * b) * Pk k := Nat.div_mul_cancel (mw_dvd k _)
theorem mR_lt (k b T x : Nat) (hb : b < Pk k) (hT : T < 2 * Pk k) (hx : x < 2 ^ 64) : mR k b T x < 2 * Pk k := by
  have h := mR_eq k b T x
  have h1 : x * b ≤ (2 ^ 64 - 1) * Pk k := Nat.mul_le_mul (by omega) (Nat.le_of_lt hb)
  have h2 : mw k (T + x * b) * Pk k ≤ (2 ^ 64 - 1) * Pk k := Nat.mul_le_mul (by have := mw_lt k (T + x * b); omega) (Nat.le_refl _)
  generalize mw k (T + x * b) * Pk k = y at *
  generalize x * b = z at *
  omega
theorem mT_lt (k a b : Nat) (hb : b < Pk k) : ∀ i, mT k a b i < 2 * Pk k
  | 0 => by have := Pk_gt k; simp only [mT]; omega
  | i + 1 => mR_lt k b _ _ hb (mT_lt k a b hb i) (Nat.mod_lt _ (by decide))
theorem mT_eq (k a b : Nat) : ∀ i, ∃ q, mT k a b i * 2 ^ (64 * i) = a % 2 ^ (64 * i) * b + q * Pk k
  | 0 => ⟨0, by simp [mT, Nat.mod_one]⟩
  | i + 1 => by
    obtain ⟨q, hq⟩ := mT_eq k a b i
    have h := mR_eq k b (mT k a b i) (a / 2 ^ (64 * i) % 2 ^ 64)
    generalize hx : a / 2 ^ (64 * i) % 2 ^ 64 = x at h
    refine ⟨q + mw k (mT k a b i + x * b) * 2 ^ (64 * i), ?_⟩
    rw [pw_succ, Nat.mod_mul, hx]
    simp only [mT, hx]
    generalize mw k (mT k a b i + x * b) = m at h
    generalize mT k a b i = t at *
    generalize mR k b t x = t' at *
    generalize 2 ^ (64 * i) = B at *
    generalize Pk k = p at *
    generalize a % B = a0 at *
    have : t' * (B * 2 ^ 64) = B * (t' * 2 ^ 64) := by grind
    rw [this, h]
    grind
/- WHAT A ROUND LEAVES IN THE SIX WORDS -/
theorem limb_add256 (u h j : Nat) (hj : j < 4) : limb (u + 2 ^ 256 * h) j = limb u j := by
  simp only [limb_def]
  congr 1
  have e : 2 ^ 256 * h = 2 ^ (64 * j) * (2 ^ (256 - 64 * j) * h) := by
    rw [← Nat.mul_assoc, ← Nat.pow_add]
    congr 2
    omega
  rw [e, Nat.add_mul_div_left _ _ (pw_pos j)]
  have e2 : 2 ^ (256 - 64 * j) * h = 2 ^ 64 * (2 ^ (192 - 64 * j) * h) := by
    rw [← Nat.mul_assoc, ← Nat.pow_add]
    congr 2
    omega
  rw [e2, Nat.add_mul_mod_self_left]
theorem limb_div (n j : Nat) : limb (n / 2 ^ 64) j = limb n (j + 1) := by
  simp only [limb_def]
  rw [Nat.div_div_eq_div_mul, pw_succ, Nat.mul_comm]
theorem limb_mod (n j : Nat) (hj : j < 4) : limb (n % 2 ^ 256) j = limb n j := by
  conv => rhs; rw [← Nat.mod_add_div n (2 ^ 256)]
  exact (limb_add256 _ _ j hj).symm
theorem round_words (k b T x : Nat) (hb : b < Pk k) (hT : T < 2 * Pk k) (hx : x < 2 ^ 64) :
    let U1 := num4 (limb T 0) (limb T 1) (limb T 2) (limb T 3) + x * b
    let m := (IntKind.wrap .u64 (limb U1 0 * (negK k : Nat))).toNat
    let U2 := num4 (limb U1 0) (limb U1 1) (limb U1 2) (limb U1 3) + m * Pk k
    let s : Int := (addS ((T / 2 ^ 256 : Nat) : Int) ((U1 / 2 ^ 256 : Nat) : Int) 0 : Nat)
    limb U2 1 = limb (mR k b T x) 0 ∧ limb U2 2 = limb (mR k b T x) 1 ∧ limb U2 3 = limb (mR k b T x) 2 ∧
    (addS s ((U2 / 2 ^ 256 : Nat) : Int) 0 : Nat) = limb (mR k b T x) 3 ∧
    IntKind.wrap .u64 ((addC ((T / 2 ^ 256 : Nat) : Int) ((U1 / 2 ^ 256 : Nat) : Int) 0 : Nat) + (addC s ((U2 / 2 ^ 256 : Nat) : Int) 0 : Nat)) = ((mR k b T x / 2 ^ 256 : Nat) : Int) := by
  intro U1 m U2 s
  have hP := Pk_lt k
  have e1 : U1 = T % 2 ^ 256 + x * b := by show num4 _ _ _ _ + _ = _; rw [num4_limb]
  have em : m = mw k (T + x * b) := by
    show (IntKind.wrap .u64 (limb U1 0 * (negK k : Nat))).toNat = _
    rw [limb_def]
    rw [← Int.natCast_mul, wrapu, toNat_cast]
    simp only [Nat.mul_zero, Nat.pow_zero, Nat.div_one, mw]
    have : U1 % 2 ^ 64 = (T + x * b) % 2 ^ 64 := by
      rw [e1]
      omega
    rw [this]
  have e2 : U2 = U1 % 2 ^ 256 + m * Pk k := by show num4 _ _ _ _ + _ = _; rw [num4_limb]
  have hv : T + x * b + mw k (T + x * b) * Pk k = U2 + 2 ^ 256 * (T / 2 ^ 256 + U1 / 2 ^ 256) := by
    rw [e2, em]
    generalize mw k (T + x * b) * Pk k = y
    rw [e1]
    omega
  have hR : mR k b T x = (U2 + 2 ^ 256 * (T / 2 ^ 256 + U1 / 2 ^ 256)) / 2 ^ 64 := by rw [← hv]; rfl
  have hRlt := mR_lt k b T x hb hT hx
  refine ⟨?_, ?_, ?_, ?_, ?_⟩
  · rw [hR, limb_div, limb_add256 _ _ _ (by decide)]
  · rw [hR, limb_div, limb_add256 _ _ _ (by decide)]
  · rw [hR, limb_div, limb_add256 _ _ _ (by decide)]
  · rw [hR, limb_div, limb_def]
    show ((addS s _ 0 : Nat) : Int) = _
    congr 1
    simp only [addS, s, toNat_cast, Int.toNat_zero]
    have e4 : (U2 + 2 ^ 256 * (T / 2 ^ 256 + U1 / 2 ^ 256)) / 2 ^ (64 * (3 + 1)) = U2 / 2 ^ 256 + (T / 2 ^ 256 + U1 / 2 ^ 256) := Nat.add_mul_div_left _ _ (by decide)
    rw [e4]
    omega
  · have e5 : mR k b T x / 2 ^ 256 = (U2 / 2 ^ 256 + (T / 2 ^ 256 + U1 / 2 ^ 256)) / 2 ^ 64 := by
      rw [hR, Nat.div_div_eq_div_mul, Nat.mul_comm (2 ^ 64) (2 ^ 256), ← Nat.div_div_eq_div_mul, Nat.add_mul_div_left _ _ (show 0 < 2 ^ 256 by decide)]
    rw [← Int.natCast_add, wrapu]
    congr 1
    rw [e5]
    have hlt : mR k b T x / 2 ^ 256 < 2 := by omega
    rw [e5] at hlt
    simp only [addC, addS, s, toNat_cast, Int.toNat_zero]
    generalize U2 / 2 ^ 256 = u2 at *
    generalize U1 / 2 ^ 256 = u1 at *
    generalize T / 2 ^ 256 = t at *
    omega
end Go.Am.Sl
/- WORDS: elements of the fields -/
namespace Go.Am.Sl
open Go.Am
def rinv : Nat → Nat
  | 0 => 10665060850805439052171011777115991512801182798151104582581619579676209308938
  | 1 => 4458503529701987551646482192314240623644693141688353256590997718326214331684
  | 2 => 115792089183396302114378112356516095823261736990586219612555396166510339686400
  | _ => 43790243014242295660885426880012836369732278457577312309071968676491870960761
theorem Pk_all3 {p : Nat → Nat → Prop} (h0 : p (Pk 0) (rinv 0)) (h1 : p (Pk 1) (rinv 1)) (h2 : p (Pk 2) (rinv 2)) (h3 : p (Pk 3) (rinv 3)) : ∀ k, p (Pk k) (rinv k)
  | 0 => h0
  | 1 => h1
  | 2 => h2
  | _ + 3 => h3
theorem rinv_ok (k : Nat) : 2 ^ 256 * rinv k % Pk k = 1 := Pk_all3 (p := fun p r => 2 ^ 256 * r % p = 1) (by decide +kernel) (by decide +kernel) (by decide +kernel) (by decide +kernel) k
theorem Pk_pos (k : Nat) : (0 : Int) < (Pk k : Nat) := by have := Pk_gt k; omega
theorem rinv_int (k : Nat) : ∃ q : Int, (2 ^ 256 : Int) * (rinv k : Nat) = 1 + q * (Pk k : Nat) := by
  have h := rinv_ok k
  have h2 := Nat.div_add_mod (2 ^ 256 * rinv k) (Pk k)
  rw [h] at h2
  refine ⟨((2 ^ 256 * rinv k / Pk k : Nat) : Int), ?_⟩
  have h3 : ((2 ^ 256 * rinv k : Nat) : Int) = ((Pk k * (2 ^ 256 * rinv k / Pk k) + 1 : Nat) : Int) := by rw [h2]
  rw [Int.natCast_mul, Int.natCast_add, Int.natCast_mul] at h3
  have h4 : ((2 ^ 256 : Nat) : Int) = 2 ^ 256 := by norm_cast
  rw [h4] at h3
  rw [h3]
  generalize ((2 ^ 256 * rinv k / Pk k : Nat) : Int) = y
  generalize ((Pk k : Nat) : Int) = z
  grind
theorem mform_lt (k : Nat) (x : Int) : mform k x < Pk k := by
  have h := Int.emod_lt_of_pos (x * 2 ^ 256) (Pk_pos k)
  have h0 := Int.emod_nonneg (x * 2 ^ 256) (Int.ne_of_gt (Pk_pos k))
  unfold mform
  omega
theorem mform_lt256 (k : Nat) (x : Int) : mform k x < 2 ^ 256 := Nat.lt_trans (mform_lt k x) (Pk_lt k)
theorem mform_int (k : Nat) (x : Int) : ((mform k x : Nat) : Int) = x * 2 ^ 256 % (Pk k : Nat) := by
  have h0 := Int.emod_nonneg (x * 2 ^ 256) (Int.ne_of_gt (Pk_pos k))
  unfold mform
  omega
/-- congruent modulo a prime -/
def cong (k : Nat) (x y : Int) : Prop := (x - y) % (Pk k : Nat) = 0
theorem cong_iff {k : Nat} {x y : Int} : cong k x y ↔ ∃ q, x = y + q * (Pk k : Nat) := by
  unfold cong
  rw [← Int.dvd_iff_emod_eq_zero]
  constructor
  · rintro ⟨q, h⟩
    exact ⟨q, by rw [Int.mul_comm q]; omega⟩
  · rintro ⟨q, h⟩
    exact ⟨q, by rw [Int.mul_comm]; omega⟩
theorem cong_refl (k : Nat) (x : Int) : cong k x x := by simp [cong]
theorem cong_symm {k : Nat} {x y : Int} (h : cong k x y) : cong k y x := by
  obtain ⟨q, rfl⟩ := cong_iff.1 h
  exact cong_iff.2 ⟨-q, by grind⟩
theorem cong_trans {k : Nat} {x y z : Int} (h : cong k x y) (h' : cong k y z) : cong k x z := by
  obtain ⟨q, rfl⟩ := cong_iff.1 h
  obtain ⟨r, rfl⟩ := cong_iff.1 h'
  exact cong_iff.2 ⟨q + r, by grind⟩
theorem cong_mod (k : Nat) (x : Int) : cong k (x % (Pk k : Nat)) x := by
  refine cong_iff.2 ⟨-(x / (Pk k : Nat)), ?_⟩
  have := Int.emod_add_mul_ediv x (Pk k : Nat)
  generalize x / (Pk k : Nat) = q at *
  grind
theorem cong_add {k : Nat} {x y u v : Int} (h : cong k x y) (h' : cong k u v) : cong k (x + u) (y + v) := by
  obtain ⟨q, rfl⟩ := cong_iff.1 h
  obtain ⟨r, rfl⟩ := cong_iff.1 h'
  exact cong_iff.2 ⟨q + r, by grind⟩
theorem cong_sub {k : Nat} {x y u v : Int} (h : cong k x y) (h' : cong k u v) : cong k (x - u) (y - v) := by
  obtain ⟨q, rfl⟩ := cong_iff.1 h
  obtain ⟨r, rfl⟩ := cong_iff.1 h'
  exact cong_iff.2 ⟨q - r, by grind⟩
theorem cong_mul {k : Nat} {x y u v : Int} (h : cong k x y) (h' : cong k u v) : cong k (x * u) (y * v) := by
  obtain ⟨q, rfl⟩ := cong_iff.1 h
  obtain ⟨r, rfl⟩ := cong_iff.1 h'
  exact cong_iff.2 ⟨q * v + y * r + q * r * (Pk k : Nat), by grind⟩
/-- 2^256 may be struck -/
theorem cong_R {k : Nat} {x y : Int} (h : cong k (x * 2 ^ 256) (y * 2 ^ 256)) : cong k x y := by
  obtain ⟨q, hq⟩ := rinv_int k
  have h1 := cong_mul h (cong_refl k (rinv k : Nat))
  have e : ∀ z : Int, cong k (z * 2 ^ 256 * (rinv k : Nat)) z := by
    intro z
    refine cong_iff.2 ⟨z * q, ?_⟩
    rw [Int.mul_assoc, hq]
    grind
  exact cong_trans (cong_symm (e x)) (cong_trans h1 (e y))
theorem mform_cong (k : Nat) (x : Int) : cong k (mform k x : Nat) (x * 2 ^ 256) := by
  rw [mform_int]
  exact cong_mod k _
theorem mform_of {k n : Nat} {z : Int} (h : n < Pk k) (e : cong k (n : Nat) (z * 2 ^ 256)) : n = mform k z := by
  have h1 := cong_trans e (cong_symm (mform_cong k z))
  have h2 := mform_lt k z
  unfold cong at h1
  have h3 : (Pk k : Int) ∣ ((n : Int) - (mform k z : Nat)) := Int.dvd_of_emod_eq_zero h1
  obtain ⟨q, hq⟩ := h3
  have hp := Pk_pos k
  have : q = 0 := by
    rcases Int.lt_trichotomy q 0 with hlt | h0 | hgt
    · have : (Pk k : Int) * q ≤ (Pk k : Int) * (-1) := Int.mul_le_mul_of_nonneg_left (by omega) (Int.le_of_lt hp)
      omega
    · exact h0
    · have : (Pk k : Int) * 1 ≤ (Pk k : Int) * q := Int.mul_le_mul_of_nonneg_left (by omega) (Int.le_of_lt hp)
      omega
  subst this
  omega
theorem mform_eq_iff {k : Nat} {x y : Int} : mform k x = mform k y ↔ cong k x y := by
  constructor
  · intro h
    refine cong_R (cong_trans (cong_symm (mform_cong k x)) ?_)
    rw [h]
    exact mform_cong k y
  · intro h
    exact mform_of (mform_lt k x) (cong_trans (mform_cong k x) (cong_mul h (cong_refl k _)))
theorem limbs_inj {m n : Nat} (hm : m < 2 ^ 256) (hn : n < 2 ^ 256) : eqIs [limb m 0, limb m 1, limb m 2, limb m 3] [limb n 0, limb n 1, limb n 2, limb n 3] = decide (m = n) := by
  have h1 := num4_limb m
  have h2 := num4_limb n
  rw [Nat.mod_eq_of_lt hm] at h1
  rw [Nat.mod_eq_of_lt hn] at h2
  by_cases h : m = n
  · subst h
    simp [eqIs]
  · rw [decide_eq_false h]
    simp only [eqIs]
    cases e0 : (limb m 0 == limb n 0) with
    | false => rfl
    | true =>
    cases e1 : (limb m 1 == limb n 1) with
    | false => rfl
    | true =>
    cases e2 : (limb m 2 == limb n 2) with
    | false => rfl
    | true =>
    cases e3 : (limb m 3 == limb n 3) with
    | false => rfl
    | true =>
      simp only [beq_iff_eq] at e0 e1 e2 e3
      rw [e0, e1, e2, e3, h2] at h1
      exact absurd h1.symm h
/-- are two elements the same? -/
def feq (k : Nat) (x y : Int) : Bool := decide ((x - y) % (Pk k : Nat) = 0)
theorem eqIs_fe (k : Nat) (x y : Int) : eqIs [limb (mform k x) 0, limb (mform k x) 1, limb (mform k x) 2, limb (mform k x) 3] [limb (mform k y) 0, limb (mform k y) 1, limb (mform k y) 2, limb (mform k y) 3] = feq k x y := by
  rw [limbs_inj (mform_lt256 k x) (mform_lt256 k y)]
  exact decide_eq_decide.2 mform_eq_iff
theorem mform_zero (k : Nat) : mform k 0 = 0 := by simp [mform]
/-- the product -/
theorem mT_cong (k a b : Nat) (ha : a < 2 ^ 256) : cong k ((mT k a b 4 : Nat) * 2 ^ 256) ((a : Nat) * (b : Nat)) := by
  obtain ⟨q, hq⟩ := mT_eq k a b 4
  have e : (2 : Nat) ^ (64 * 4) = 2 ^ 256 := rfl
  rw [e, Nat.mod_eq_of_lt ha] at hq
  refine cong_iff.2 ⟨q, ?_⟩
  have := congrArg (Nat.cast (R := Int)) hq
  simp only [Int.natCast_mul, Int.natCast_add] at this
  have h4 : ((2 ^ 256 : Nat) : Int) = 2 ^ 256 := by norm_cast
  rw [h4] at this
  exact this
def mm (k a b : Nat) : Nat := if mT k a b 4 < Pk k then mT k a b 4 else mT k a b 4 - Pk k
theorem mm_lt (k a b : Nat) (hb : b < Pk k) : mm k a b < Pk k := by
  have := mT_lt k a b hb 4
  unfold mm
  split <;> omega
theorem mm_cong (k a b : Nat) (ha : a < 2 ^ 256) : cong k ((mm k a b : Nat) * 2 ^ 256) ((a : Nat) * (b : Nat)) := by
  refine cong_trans ?_ (mT_cong k a b ha)
  unfold mm
  split
  · exact cong_refl _ _
  · refine cong_iff.2 ⟨-(2 ^ 256), ?_⟩
    have : ((mT k a b 4 - Pk k : Nat) : Int) = (mT k a b 4 : Nat) - (Pk k : Nat) := by omega
    rw [this]
    grind
theorem mm_fe (k : Nat) (x y : Int) : mm k (mform k x) (mform k y) = mform k (x * y) := by
  refine mform_of (mm_lt k _ _ (mform_lt k y)) (cong_R ?_)
  refine cong_trans (mm_cong k _ _ (mform_lt256 k x)) (cong_trans (cong_mul (mform_cong k x) (mform_cong k y)) ?_)
  exact cong_iff.2 ⟨0, by grind⟩
theorem modlt (a k : Nat) : a % Pk k < Pk k := Nat.mod_lt _ (by have := Pk_gt k; omega)
/-- an element of a number -/
theorem mm_tog (k n r : Nat) (hn : n < 2 ^ 256) (hr : r < Pk k) (h1 : cong k (r : Int) ((2 : Int) ^ 256 * 2 ^ 256)) : mm k n r = mform k (n : Nat) := by
  refine mform_of (mm_lt k _ _ hr) (cong_R ?_)
  refine cong_trans (mm_cong k _ _ hn) ?_
  refine cong_trans (cong_mul (cong_refl k _) h1) ?_
  refine cong_iff.2 ⟨0, ?_⟩
  generalize (2 : Int) ^ 256 = r
  grind
theorem sq_int (k : Nat) : cong k ((2 ^ 256 * 2 ^ 256 % Pk k : Nat) : Int) ((2 : Int) ^ 256 * 2 ^ 256) := by
  have := cong_mod k ((2 : Int) ^ 256 * 2 ^ 256)
  rw [Int.natCast_emod, Int.natCast_mul]
  exact this
theorem p512 : 2 ^ 512 = 2 ^ 256 * 2 ^ 256 := by decide +kernel
theorem sq_eq (k : Nat) : 2 ^ 512 % Pk k = 2 ^ 256 * 2 ^ 256 % Pk k := by rw [p512]
theorem mm_to (k n : Nat) (hn : n < 2 ^ 256) : mm k n (2 ^ 512 % Pk k) = mform k (n : Nat) :=
  (congrArg (mm k n) (sq_eq k)).trans (mm_tog k n _ hn (modlt (2 ^ 256 * 2 ^ 256) k) (sq_int k))
/-- the number of an element -/
theorem mm_from (k : Nat) (x : Int) : mm k (mform k x) 1 = (x % (Pk k : Nat)).toNat := by
  have hp := Pk_gt k
  have h1 : cong k (mm k (mform k x) 1 : Nat) x := by
    refine cong_R (cong_trans (mm_cong k _ 1 (mform_lt256 k x)) (cong_trans (cong_mul (mform_cong k x) (cong_refl k _)) ?_))
    exact cong_iff.2 ⟨0, by simp⟩
  have h2 := mm_lt k (mform k x) 1 (by omega)
  unfold cong at h1
  have h3 : ((mm k (mform k x) 1 : Nat) : Int) % (Pk k : Nat) = x % (Pk k : Nat) := Int.emod_eq_emod_iff_emod_sub_eq_zero.2 h1
  rw [Int.emod_eq_of_lt (Int.natCast_nonneg _) (by omega)] at h3
  omega
end Go.Am.Sl
/- WORDS: bytes -/
namespace Go.Am.Sl
open Go.Am
theorem wrapI {z : Int} (h : -1099511627776 ≤ z) (h' : z ≤ 1099511627776) : IntKind.wrap .i64 z = z := IntWalk.i64_in z (by omega)
/-- bytes as a number, the highest first -/
def be (l : List Int) : Nat := l.foldl (fun a x => a * 256 + x.toNat) 0
theorem be_snoc (l : List Int) (x : Int) : be (l ++ [x]) = be l * 256 + x.toNat := by simp [be, List.foldl_append]
def isB (xs : List Int) : Prop := ∀ x ∈ xs, 0 ≤ x ∧ x < 256
theorem be_from : ∀ (l : List Int) (a : Nat), isB l → l.foldl (fun a x => a * 256 + x.toNat) a < (a + 1) * 256 ^ l.length
  | [], a, _ => by simp
  | x :: l, a, h => by
    simp only [List.foldl_cons, List.length_cons]
    have h1 := be_from l (a * 256 + x.toNat) fun y hy => h y (by simp [hy])
    have h2 := h x (by simp)
    have h3 : (a * 256 + x.toNat + 1) * 256 ^ l.length ≤ (a + 1) * 256 * 256 ^ l.length := Nat.mul_le_mul_right _ (by omega)
    rw [Nat.pow_succ]
    have e : (a + 1) * (256 ^ l.length * 256) = (a + 1) * 256 * 256 ^ l.length := by grind
    omega
theorem be_lt (l : List Int) (h : isB l) : be l < 256 ^ l.length := by
  have := be_from l 0 h
  simpa [be] using this
theorem or_add {a b s : Nat} (ha : 2 ^ s ∣ a) (hb : b < 2 ^ s) : a ||| b = a + b := by
  obtain ⟨c, rfl⟩ := ha
  have := Nat.shiftLeft_add_eq_or_of_lt hb c
  rw [Nat.shiftLeft_eq, Nat.mul_comm] at this
  exact this.symm
theorem pow256 (k : Nat) : 256 ^ k = 2 ^ (8 * k) := by rw [Nat.pow_mul]
theorem limb_put (M x k : Nat) (hx : x < 256) (hM : M * 256 ^ (k + 1) < 2 ^ 256) (hk : k < 32) :
    limb (M * 256 ^ (k + 1) + x * 256 ^ k) (k / 8) = limb (M * 256 ^ (k + 1)) (k / 8) + (x * 2 ^ (8 * (k % 8)) : Nat) ∧ 2 ^ (8 * (k % 8) + 8) ∣ M * 256 ^ (k + 1) / 2 ^ (64 * (k / 8)) % 2 ^ 64 ∧
    ∀ j, j < 4 → j ≠ k / 8 → limb (M * 256 ^ (k + 1) + x * 256 ^ k) j = limb (M * 256 ^ (k + 1)) j := by
  have hs : k % 8 < 8 := Nat.mod_lt _ (by decide)
  have e0 : 8 * k = 64 * (k / 8) + 8 * (k % 8) := by omega
  have ek : 256 ^ k = 2 ^ (64 * (k / 8)) * 2 ^ (8 * (k % 8)) := by rw [pow256, e0, Nat.pow_add]
  have ek1 : 256 ^ (k + 1) = 2 ^ (64 * (k / 8)) * 2 ^ (8 * (k % 8) + 8) := by rw [pow256, ← Nat.pow_add]; congr 1; omega
  have d1 : M * 256 ^ (k + 1) / 2 ^ (64 * (k / 8)) = M * 2 ^ (8 * (k % 8) + 8) := by
    rw [ek1, show M * (2 ^ (64 * (k / 8)) * 2 ^ (8 * (k % 8) + 8)) = 2 ^ (64 * (k / 8)) * (M * 2 ^ (8 * (k % 8) + 8)) by grind, Nat.mul_div_cancel_left _ (pw_pos _)]
  have d2 : (M * 256 ^ (k + 1) + x * 256 ^ k) / 2 ^ (64 * (k / 8)) = M * 2 ^ (8 * (k % 8) + 8) + x * 2 ^ (8 * (k % 8)) := by
    rw [ek, ek1, show M * (2 ^ (64 * (k / 8)) * 2 ^ (8 * (k % 8) + 8)) + x * (2 ^ (64 * (k / 8)) * 2 ^ (8 * (k % 8))) = 2 ^ (64 * (k / 8)) * (M * 2 ^ (8 * (k % 8) + 8) + x * 2 ^ (8 * (k % 8))) by grind, Nat.mul_div_cancel_left _ (pw_pos _)]
  have hdv : 2 ^ (8 * (k % 8) + 8) ∣ 2 ^ 64 := Nat.pow_dvd_pow 2 (by omega)
  have hdm : 2 ^ (8 * (k % 8) + 8) ∣ M * 2 ^ (8 * (k % 8) + 8) % 2 ^ 64 := (Nat.dvd_mod_iff hdv).2 (Nat.dvd_mul_left _ _)
  have hxs : x * 2 ^ (8 * (k % 8)) < 2 ^ (8 * (k % 8) + 8) := by
    rw [Nat.pow_add, Nat.mul_comm (2 ^ (8 * (k % 8)))]
    exact Nat.mul_lt_mul_of_pos_right hx (Nat.pow_pos (by decide))
  refine ⟨?_, by rw [d1]; exact hdm, ?_⟩
  · simp only [limb_def]
    rw [d1, d2, ← Int.natCast_add]
    congr 1
    obtain ⟨q, hq⟩ := hdm
    obtain ⟨c, hc⟩ := hdv
    have hlt := Nat.mod_lt (M * 2 ^ (8 * (k % 8) + 8)) (show 0 < 2 ^ 64 by decide)
    have hp : 0 < 2 ^ (8 * (k % 8) + 8) := Nat.pow_pos (by decide)
    rw [Nat.add_mod, hq]
    rw [hq, hc] at hlt
    have hqc : q < c := Nat.lt_of_mul_lt_mul_left hlt
    have h1 : 2 ^ (8 * (k % 8) + 8) * (q + 1) ≤ 2 ^ (8 * (k % 8) + 8) * c := Nat.mul_le_mul_left _ hqc
    rw [Nat.mul_add, ← hc] at h1
    have h2 : x * 2 ^ (8 * (k % 8)) < 2 ^ 64 := by omega
    rw [Nat.mod_eq_of_lt h2, Nat.mod_eq_of_lt (by omega)]
  · intro j hj hne
    simp only [limb_def]
    congr 1
    rcases Nat.lt_or_gt_of_ne hne with hlt | hgt
    · -- below
      have e3 : x * 256 ^ k = 2 ^ (64 * j) * (2 ^ 64 * (x * 2 ^ (8 * k - 64 * (j + 1)))) := by
        rw [pow256]
        have : 8 * k = 64 * j + (64 + (8 * k - 64 * (j + 1))) := by omega
        conv => lhs; rw [this, Nat.pow_add, Nat.pow_add]
        grind
      rw [e3, Nat.add_mul_div_left _ _ (pw_pos j), Nat.add_mul_mod_self_left]
    · -- above
      have e4 : 2 ^ (64 * j) = 256 ^ (k + 1) * 2 ^ (64 * j - 8 * (k + 1)) := by
        rw [pow256, ← Nat.pow_add]
        congr 1
        omega
      have hp : 0 < 256 ^ (k + 1) := Nat.pow_pos (by decide)
      congr 1
      rw [e4, ← Nat.div_div_eq_div_mul, ← Nat.div_div_eq_div_mul, Nat.mul_div_cancel _ hp, Nat.mul_comm M, Nat.mul_add_div hp]
      have : x * 256 ^ k / 256 ^ (k + 1) = 0 := by
        apply Nat.div_eq_of_lt
        rw [Nat.pow_succ, Nat.mul_comm x]
        exact Nat.mul_lt_mul_of_pos_left hx (Nat.pow_pos (by decide))
      rw [this, Nat.add_zero]
theorem bits_or (a b : Nat) (ha : a < 2 ^ 64) (hb : b < 2 ^ 64) : bitsI .or .u64 (a : Int) (b : Int) = ((a ||| b : Nat) : Int) := by
  have : (BitVec.ofInt 64 (a : Int) ||| BitVec.ofInt 64 (b : Int)).toNat = a ||| b := by
    rw [BitVec.toNat_or]
    have e1 : ∀ a : Nat, a < 2 ^ 64 → (BitVec.ofInt 64 (a : Int)).toNat = a := by
      intro a ha
      rw [BitVec.toNat_ofInt]
      have : ((a : Int) % ((2 ^ 64 : Nat) : Int)).toNat = a % 2 ^ 64 := by norm_cast
      rw [this, Nat.mod_eq_of_lt ha]
    rw [e1 a ha, e1 b hb]
  show IntKind.u64.wrap (((BitVec.ofInt 64 (a : Int) ||| BitVec.ofInt 64 (b : Int)).toNat : Nat) : Int) = _
  rw [this, wrapu, Nat.mod_eq_of_lt (Nat.or_lt_two_pow ha hb)]
/-- where a byte goes, as the code reckons it -/
def kI (len i : Nat) : Int := IntKind.wrap .i64 (IntKind.wrap .i64 ((len : Nat) - 1) - (i : Nat))
def qI (len i : Nat) : Int := IntKind.wrap .i64 (Int.tdiv (kI len i) 8)
def sI8 (len i : Nat) : Int := IntKind.wrap .i64 (8 * Int.tmod (kI len i) 8)
theorem kI_eq {len i : Nat} (h : i < len) (hl : len ≤ 1000000) : kI len i = ((len - 1 - i : Nat) : Int) := by
  unfold kI
  rw [show IntKind.wrap .i64 ((len : Nat) - 1) = (len : Int) - 1 from wrapI (by omega) (by omega), wrapI (by omega) (by omega)]
  omega
theorem qI_eq {len i : Nat} (h : i < len) (hl : len ≤ 1000000) : qI len i = (((len - 1 - i) / 8 : Nat) : Int) := by
  unfold qI
  rw [kI_eq h hl, Int.tdiv_eq_ediv_of_nonneg (Int.natCast_nonneg _), wrapI (by omega) (by omega)]
  exact (Int.natCast_ediv _ 8).symm
theorem sI8_eq {len i : Nat} (h : i < len) (hl : len ≤ 1000000) : sI8 len i = ((8 * ((len - 1 - i) % 8) : Nat) : Int) := by
  unfold sI8
  rw [kI_eq h hl, Int.tmod_eq_emod_of_nonneg (Int.natCast_nonneg _), wrapI (by omega) (by omega)]
  omega
/-- the words when a byte has been put in -/
theorem put_byte (M x len i : Nat) (h : i < len) (hl : len ≤ 32) (hx : x < 256) (hM : M * 256 ^ (len - 1 - i + 1) < 2 ^ 256) :
    List.set [limb (M * 256 ^ (len - 1 - i + 1)) 0, limb (M * 256 ^ (len - 1 - i + 1)) 1, limb (M * 256 ^ (len - 1 - i + 1)) 2, limb (M * 256 ^ (len - 1 - i + 1)) 3] (0 + (qI len i).toNat * 1)
      (bitsI .or .u64 (limb (M * 256 ^ (len - 1 - i + 1)) (0 + (qI len i).toNat * 1)) (IntKind.wrap .u64 (IntKind.wrap .u64 (x : Int) * 2 ^ min (sI8 len i).toNat 64))) =
    [limb (M * 256 ^ (len - 1 - i + 1) + x * 256 ^ (len - 1 - i)) 0, limb (M * 256 ^ (len - 1 - i + 1) + x * 256 ^ (len - 1 - i)) 1, limb (M * 256 ^ (len - 1 - i + 1) + x * 256 ^ (len - 1 - i)) 2, limb (M * 256 ^ (len - 1 - i + 1) + x * 256 ^ (len - 1 - i)) 3] := by
  rw [qI_eq h (by omega), sI8_eq h (by omega), toNat_cast, toNat_cast, Nat.zero_add, Nat.mul_one]
  generalize hk : len - 1 - i = k at *
  have hk32 : k < 32 := by omega
  obtain ⟨p1, p2, p3⟩ := limb_put M x k hx hM hk32
  have hs : k % 8 < 8 := Nat.mod_lt _ (by decide)
  have e1 : IntKind.wrap .u64 (IntKind.wrap .u64 (x : Int) * 2 ^ min (8 * (k % 8)) 64) = ((x * 2 ^ (8 * (k % 8)) : Nat) : Int) := by
    rw [Nat.min_eq_left (by omega), wrapu, Nat.mod_eq_of_lt (by omega)]
    have : (2 : Int) ^ (8 * (k % 8)) = ((2 ^ (8 * (k % 8)) : Nat) : Int) := by norm_cast
    rw [this, ← Int.natCast_mul, wrapu, Nat.mod_eq_of_lt]
    calc x * 2 ^ (8 * (k % 8)) < 256 * 2 ^ (8 * (k % 8)) := Nat.mul_lt_mul_of_pos_right hx (Nat.pow_pos (by decide))
      _ = 2 ^ (8 + 8 * (k % 8)) := by rw [Nat.pow_add]
      _ ≤ 2 ^ 64 := Nat.pow_le_pow_right (by decide) (by omega)
  have hxs : x * 2 ^ (8 * (k % 8)) < 2 ^ (8 * (k % 8) + 8) := by
    rw [Nat.pow_add, Nat.mul_comm (2 ^ (8 * (k % 8)))]
    exact Nat.mul_lt_mul_of_pos_right hx (Nat.pow_pos (by decide))
  have e2 : bitsI .or .u64 (limb (M * 256 ^ (k + 1)) (k / 8)) ((x * 2 ^ (8 * (k % 8)) : Nat) : Int) = limb (M * 256 ^ (k + 1) + x * 256 ^ k) (k / 8) := by
    rw [p1, limb_def, bits_or _ _ (Nat.mod_lt _ (by decide)) (Nat.lt_of_lt_of_le hxs (Nat.pow_le_pow_right (by decide) (by omega))), or_add p2 hxs, Int.natCast_add]
  rw [e1, e2]
  have hq : k / 8 < 4 := by omega
  generalize hj : k / 8 = j at *
  have q0 := p3 0 (by decide)
  have q1 := p3 1 (by decide)
  have q2 := p3 2 (by decide)
  have q3 := p3 3 (by decide)
  match j, hq with
  | 0, _ => rw [q1 (by decide), q2 (by decide), q3 (by decide)]; rfl
  | 1, _ => rw [q0 (by decide), q2 (by decide), q3 (by decide)]; rfl
  | 2, _ => rw [q0 (by decide), q1 (by decide), q3 (by decide)]; rfl
  | 3, _ => rw [q0 (by decide), q1 (by decide), q2 (by decide)]; rfl
end Go.Am.Sl
namespace Go.Am.Sl
open Go.Am Go.Proofs
/-- a function is run, its blocks told -/
theorem goB {g : Nat} {l : List (FuncId × Spec)} (hE : EnvOk (env l) g) {f : FuncId} {fn : Func} (O : Opn) (B : List (Nat × Sum)) (n : Nat) (path : List Bool) (hf : P.funcs[f]? = some fn) (hn : (fn.name == "runtime.NumGoroutine") = false) (hb : fn.body = some (bodyOf fn))
    {args : List AVal} {H : AHeap} (hB1 : onceB (bodyOf fn) B = true) (hB2 : sumsOk (env l) g [] H.length (bodyOf fn) B) {r0 r : AVal} {H0 H' : AHeap} {cs : List Cond}
    (h1 : (outF H.length (runF (env l) O B n fn path args H)).1 = some (some ([r0], H0), cs)) (h2 : (outF H.length (runF (env l) O B n fn path args H)).2.1 = (outF H.length (runF (env l) O B n fn path args H)).2.2) (hc : All cs) (ha : Alike r0 r) (hH : H0 = H')
    {L : Nat → Loc} {w : World} (hs : Sim g L H w) (hg : GlobsOk glob g w) (hok : AVal.oks (Th H) args) : CallF P f (AVal.concs L args).toArray w (Back g L H w r H') := by
  subst hH
  exact (callF_of hE hf hn hb (blocksOk_of hB1 hB2) h1 h2 hc hs hg hok).mono fun e w' h => h.alike ha
theorem go {g : Nat} {l : List (FuncId × Spec)} (hE : EnvOk (env l) g) {f : FuncId} {fn : Func} (O : Opn) (n : Nat) (path : List Bool) (hf : P.funcs[f]? = some fn) (hn : (fn.name == "runtime.NumGoroutine") = false) (hb : fn.body = some (bodyOf fn))
    {args : List AVal} {H : AHeap} {r0 r : AVal} {H0 H' : AHeap} {cs : List Cond}
    (h1 : (outF H.length (runF (env l) O [] n fn path args H)).1 = some (some ([r0], H0), cs)) (h2 : (outF H.length (runF (env l) O [] n fn path args H)).2.1 = (outF H.length (runF (env l) O [] n fn path args H)).2.2) (hc : All cs) (ha : Alike r0 r) (hH : H0 = H')
    {L : Nat → Loc} {w : World} (hs : Sim g L H w) (hg : GlobsOk glob g w) (hok : AVal.oks (Th H) args) : CallF P f (AVal.concs L args).toArray w (Back g L H w r H') := by
  subst hH
  exact (callF_of hE hf hn hb (blocksOk_nil _) h1 h2 hc hs hg hok).mono fun e w' h => h.alike ha
theorem alike_w4 {x0 x1 x2 x3 : Int} {n : Nat} (h0 : x0 = limb n 0) (h1 : x1 = limb n 1) (h2 : x2 = limb n 2) (h3 : x3 = limb n 3) : Alike (.arr .u64 4 [x0, x1, x2, x3]) (.w4 n) := by
  subst h0 h1 h2 h3
  exact ⟨fun _ => rfl, fun _ => rfl, fun _ h => h, rfl⟩
theorem alike_w4' {n m : Nat} (h0 : limb n 0 = limb m 0) (h1 : limb n 1 = limb m 1) (h2 : limb n 2 = limb m 2) (h3 : limb n 3 = limb m 3) : Alike (.w4 n) (.w4 m) := by
  refine ⟨fun L => ?_, fun L => ?_, fun _ h => h, rfl⟩
  · simp only [AVal.conc, limbs, h0, h1, h2, h3]
  · simp only [AVal.cells, limbs, h0, h1, h2, h3]
theorem alike_two {a b a' b' : AVal} (h1 : Alike a a') (h2 : Alike b b') : Alike (.tuple [a, b]) (.tuple [a', b']) :=
  ⟨fun L => by simp only [AVal.conc, AVal.concs, h1.conc L, h2.conc L], fun L => by simp only [AVal.cells, AVal.concs, h1.conc L, h2.conc L], fun A h => ⟨h1.ok A h.1, h2.ok A h.2.1, trivial⟩, rfl⟩
theorem alike_three {a b c a' b' c' : AVal} (h1 : Alike a a') (h2 : Alike b b') (h3 : Alike c c') : Alike (.tuple [a, b, c]) (.tuple [a', b', c']) :=
  ⟨fun L => by simp only [AVal.conc, AVal.concs, h1.conc L, h2.conc L, h3.conc L], fun L => by simp only [AVal.cells, AVal.concs, h1.conc L, h2.conc L, h3.conc L], fun A h => ⟨h1.ok A h.1, h2.ok A h.2.1, h3.ok A h.2.2.1, trivial⟩, rfl⟩
theorem alike_eq {a b : AVal} (h : a = b) : Alike a b := h ▸ Alike.refl a
/-- numbers of four words, in whatever form -/
def asW : AVal → AVal
  | .fe k x => .w4 (mform k x)
  | .arr .u64 4 [x0, x1, x2, x3] => .w4 (num4 x0 x1 x2 x3)
  | v => v
def asC : AVal → List Cond
  | .arr .u64 4 [x0, x1, x2, x3] => [.ile 0 x0, .ilt x0 (2 ^ 64), .ile 0 x1, .ilt x1 (2 ^ 64), .ile 0 x2, .ilt x2 (2 ^ 64), .ile 0 x3, .ilt x3 (2 ^ 64)]
  | _ => []
theorem asW_conc (L : Nat → Loc) (v : AVal) (h : All (asC v)) : AVal.conc L (asW v) = AVal.conc L v := by
  unfold asW
  split
  · rfl
  · rename_i x0 x1 x2 x3
    obtain ⟨h0, g0, h1, g1, h2, g2, h3, g3, _⟩ := h
    obtain ⟨e0, e1, e2, e3, _⟩ := limb_num4 h0 g0 h1 g1 h2 g2 h3 g3
    simp only [AVal.conc, limbs, e0, e1, e2, e3]
    rfl
  · rfl
theorem asW_ok {A : Nat → Prop} {v : AVal} (h : AVal.ok A v) : AVal.ok A (asW v) := by
  unfold asW
  split
  · trivial
  · trivial
  · exact h
def asCs : List AVal → List Cond
  | [] => []
  | v :: vs => asC v ++ asCs vs
def wide (F : Spec) : Spec := fun args H =>
  match F (args.map asW) H with
  | some (r, H', c) => some (r, H', asCs args ++ c)
  | none => none
theorem asCs_ok (L : Nat → Loc) : ∀ (vs : List AVal), All (asCs vs) → AVal.concs L (vs.map asW) = AVal.concs L vs
  | [], _ => rfl
  | v :: vs, h => by
    obtain ⟨h1, h2⟩ := (All_append _ _).1 h
    simp only [List.map_cons, AVal.concs, asW_conc L v h1, asCs_ok L vs h2]
theorem wide_ok {g : Nat} {f : FuncId} {F : Spec} (h : Ok g f F) : Ok g f (wide F) := by
  intro args H r H' c hF hc L w hs hg hok
  unfold wide at hF
  split at hF
  case h_2 => cases hF
  rename_i r1 H1 c1 hF1
  simp only [Option.some.injEq, Prod.mk.injEq] at hF
  obtain ⟨rfl, rfl, rfl⟩ := hF
  obtain ⟨hc1, hc2⟩ := (All_append _ _).1 hc
  rw [← asCs_ok L args hc1]
  refine h _ H r1 H1 c1 hF1 hc2 L w hs hg ?_
  rw [AVal.oks_iff] at *
  intro v hv
  obtain ⟨u, hu, rfl⟩ := List.mem_map.1 hv
  exact asW_ok (hok u hu)

/- THE SUM AND THE DIFFERENCE OF TWO NUMBERS -/
def fPlus : Spec := fun args H =>
  match args, H with
  | [.w4 a, .w4 b], [] => some (.tuple [.w4 ((a + b) % 2 ^ 256), u64 ((a + b) / 2 ^ 256)], [], [.lt a (2 ^ 256), .lt b (2 ^ 256)])
  | _, _ => none
def fMinus : Spec := fun args H =>
  match args, H with
  | [.w4 a, .w4 b], [] => some (.tuple [.w4 ((a + (2 ^ 256 - b)) % 2 ^ 256), u64 (if a < b then 1 else 0)], [], [.lt a (2 ^ 256), .lt b (2 ^ 256)])
  | _, _ => none
noncomputable def l2 : List (FuncId × Spec) := [(234, fAdd64), (235, fSub64), (236, fMul64)]
theorem l2_ok (g : Nat) : EnvOk (env l2) g := env_cons (okAdd64 g) (env_cons (okSub64 g) (env_cons (okMul64 g) (env_nil g)))
theorem okPlus (g : Nat) : Ok g 211 fPlus := by
  intro args H r H' c h hc L w hs hg hok
  unfold fPlus at h
  split at h
  case h_2 => cases h
  rename_i a b
  simp only [Option.some.injEq, Prod.mk.injEq] at h
  obtain ⟨rfl, rfl, rfl⟩ := h
  have ha : a < 2 ^ 256 := hc.1
  have hb : b < 2 ^ 256 := hc.2.1
  refine go (l2_ok g) noO 80 [] Tryd.func211 (by kernel_rfl) (by kernel_rfl)
    (r0 := .tuple [.arr .u64 4 [(addS (limb a 0) (limb b 0) (cyA a b 0) : Nat), (addS (limb a 1) (limb b 1) (cyA a b 1) : Nat), (addS (limb a 2) (limb b 2) (cyA a b 2) : Nat), (addS (limb a 3) (limb b 3) (cyA a b 3) : Nat)], .int .u64 (cyA a b 4)])
    (H0 := []) (cs := [.le (cyA a b 0).toNat 1, .le (cyA a b 1).toNat 1, .le (cyA a b 2).toNat 1, .le (cyA a b 3).toNat 1]) (by kernel_rfl) (by kernel_rfl) ⟨cyA_le a b 0, cyA_le a b 1, cyA_le a b 2, cyA_le a b 3, trivial⟩ ?_ rfl hs hg hok
  refine alike_two (alike_w4 ?_ ?_ ?_ ?_) (alike_eq ?_)
  · rw [addS_limb, limb_mod _ _ (by decide), limb_def]
  · rw [addS_limb, limb_mod _ _ (by decide), limb_def]
  · rw [addS_limb, limb_mod _ _ (by decide), limb_def]
  · rw [addS_limb, limb_mod _ _ (by decide), limb_def]
  · show AVal.int .u64 ((addC (limb a 3) (limb b 3) (cyA a b 3) : Nat) : Int) = .int .u64 (((a + b) / 2 ^ 256 : Nat) : Int)
    rw [← cyA_4 a b ha hb]
    rfl
theorem okMinus (g : Nat) : Ok g 212 fMinus := by
  intro args H r H' c h hc L w hs hg hok
  unfold fMinus at h
  split at h
  case h_2 => cases h
  rename_i a b
  simp only [Option.some.injEq, Prod.mk.injEq] at h
  obtain ⟨rfl, rfl, rfl⟩ := h
  have ha : a < 2 ^ 256 := hc.1
  have hb : b < 2 ^ 256 := hc.2.1
  refine go (l2_ok g) noO 80 [] Tryd.func212 (by kernel_rfl) (by kernel_rfl)
    (r0 := .tuple [.arr .u64 4 [(subS (limb a 0) (limb b 0) (bwA a b 0) : Nat), (subS (limb a 1) (limb b 1) (bwA a b 1) : Nat), (subS (limb a 2) (limb b 2) (bwA a b 2) : Nat), (subS (limb a 3) (limb b 3) (bwA a b 3) : Nat)], .int .u64 (bwA a b 4)])
    (H0 := []) (cs := [.le (bwA a b 0).toNat 1, .le (bwA a b 1).toNat 1, .le (bwA a b 2).toNat 1, .le (bwA a b 3).toNat 1]) (by kernel_rfl) (by kernel_rfl) ⟨bwA_le a b 0, bwA_le a b 1, bwA_le a b 2, bwA_le a b 3, trivial⟩ ?_ rfl hs hg hok
  refine alike_two (alike_w4 ?_ ?_ ?_ ?_) (alike_eq ?_)
  · rw [subS_limb _ _ _ (by decide) (Nat.le_of_lt hb), limb_mod _ _ (by decide), limb_def]
  · rw [subS_limb _ _ _ (by decide) (Nat.le_of_lt hb), limb_mod _ _ (by decide), limb_def]
  · rw [subS_limb _ _ _ (by decide) (Nat.le_of_lt hb), limb_mod _ _ (by decide), limb_def]
  · rw [subS_limb _ _ _ (by decide) (Nat.le_of_lt hb), limb_mod _ _ (by decide), limb_def]
  · show AVal.int .u64 ((subC (limb a 3) (limb b 3) (bwA a b 3) : Nat) : Int) = .int .u64 ((if a < b then 1 else 0 : Nat) : Int)
    rw [← bwA_4 a b ha hb]
    rfl
end Go.Am.Sl
namespace Go.Am.Sl
open Go.Am Go.Proofs
/- A ROW OF A PRODUCT -/
def wordC (t : Int) : List Cond := [.ile 0 t, .ilt t (2 ^ 64)]
def fLine : Spec := fun args H =>
  match args, H with
  | [.ptr (some (0, 0)), .int .u64 x, .w4 n, .int .u64 top], [.obj t (.arr .u64 6 [t0, t1, t2, t3, t4, t5])] =>
    some (.tuple [u64 (addS top ((num4 t0 t1 t2 t3 + x.toNat * n) / 2 ^ 256 : Nat) 0), u64 (addC top ((num4 t0 t1 t2 t3 + x.toNat * n) / 2 ^ 256 : Nat) 0)],
      [.obj t (.arr .u64 6 [limb (num4 t0 t1 t2 t3 + x.toNat * n) 0, limb (num4 t0 t1 t2 t3 + x.toNat * n) 1, limb (num4 t0 t1 t2 t3 + x.toNat * n) 2, limb (num4 t0 t1 t2 t3 + x.toNat * n) 3, t4, t5])],
      [.ile 0 x, .ilt x (2 ^ 64), .lt n (2 ^ 256), .ile 0 t0, .ilt t0 (2 ^ 64), .ile 0 t1, .ilt t1 (2 ^ 64), .ile 0 t2, .ilt t2 (2 ^ 64), .ile 0 t3, .ilt t3 (2 ^ 64)])
  | _, _ => none
theorem words_of {t0 t1 t2 t3 : Int} (h0 : 0 ≤ t0) (g0 : t0 < 2 ^ 64) (h1 : 0 ≤ t1) (g1 : t1 < 2 ^ 64) (h2 : 0 ≤ t2) (g2 : t2 < 2 ^ 64) (h3 : 0 ≤ t3) (g3 : t3 < 2 ^ 64) :
    ∃ T, T < 2 ^ 256 ∧ num4 t0 t1 t2 t3 = T ∧ t0 = limb T 0 ∧ t1 = limb T 1 ∧ t2 = limb T 2 ∧ t3 = limb T 3 := by
  obtain ⟨e0, e1, e2, e3, e4⟩ := limb_num4 h0 g0 h1 g1 h2 g2 h3 g3
  exact ⟨_, e4, rfl, e0.symm, e1.symm, e2.symm, e3.symm⟩
theorem limb_nonneg (n i : Nat) : (0 : Int) ≤ limb n i := by rw [limb_def]; exact Int.natCast_nonneg _
theorem limb_ltI (n i : Nat) : limb n i < 2 ^ 64 := by
  have := limb_lt n i
  rw [limb_def] at *
  rw [toNat_cast] at this
  omega
theorem okLine (g : Nat) : Ok g 213 fLine := by
  intro args H r H' c h hc L w hs hg hok
  unfold fLine at h
  split at h
  case h_2 => cases h
  rename_i x n top t t0 t1 t2 t3 t4 t5
  simp only [Option.some.injEq, Prod.mk.injEq] at h
  obtain ⟨rfl, rfl, rfl⟩ := h
  obtain ⟨x0, x1, hn, h0, g0, h1, g1, h2, g2, h3, g3, _⟩ := hc
  have x0 : (0 : Int) ≤ x := x0
  have x1 : x < 2 ^ 64 := x1
  have hn : n < 2 ^ 256 := hn
  obtain ⟨T, hT, hN, rfl, rfl, rfl, rfl⟩ := words_of h0 g0 h1 g1 h2 g2 h3 g3
  obtain ⟨x, rfl⟩ := Int.eq_ofNat_of_zero_le x0
  have hx : x < 2 ^ 64 := by omega
  rw [hN]
  have k : ∀ i, (0 : Int) ≤ limb n i ∧ limb n i < 2 ^ 64 := fun i => ⟨limb_nonneg n i, limb_ltI n i⟩
  refine go (l2_ok g) noO 90 [] Tryd.func213 (by kernel_rfl) (by kernel_rfl)
    (r0 := .tuple [.int .u64 (addS top (crI (limb T) x n 4) 0 : Nat), .int .u64 (addC top (crI (limb T) x n 4) 0 : Nat)])
    (H0 := [.obj t (.arr .u64 6 [tnI (limb T) x n 0, tnI (limb T) x n 1, tnI (limb T) x n 2, tnI (limb T) x n 3, t4, t5])])
    (cs := [.ile 0 x, .ilt x (2 ^ 64), .ile 0 (limb n 0), .ilt (limb n 0) (2 ^ 64), .le 0 1, .le 0 1, .ile 0 x, .ilt x (2 ^ 64), .ile 0 (limb n 1), .ilt (limb n 1) (2 ^ 64), .le 0 1, .le 0 1,
      .ile 0 x, .ilt x (2 ^ 64), .ile 0 (limb n 2), .ilt (limb n 2) (2 ^ 64), .le 0 1, .le 0 1, .ile 0 x, .ilt x (2 ^ 64), .ile 0 (limb n 3), .ilt (limb n 3) (2 ^ 64), .le 0 1, .le 0 1, .le 0 1])
    (by kernel_rfl) (by kernel_rfl)
    ⟨x0, x1, (k 0).1, (k 0).2, Nat.zero_le 1, Nat.zero_le 1, x0, x1, (k 1).1, (k 1).2, Nat.zero_le 1, Nat.zero_le 1, x0, x1, (k 2).1, (k 2).2, Nat.zero_le 1, Nat.zero_le 1, x0, x1, (k 3).1, (k 3).2, Nat.zero_le 1, Nat.zero_le 1, Nat.zero_le 1, trivial⟩ ?_ ?_ hs hg hok
  · have e : crI (limb T) x n 4 = ((T + x * n) / 2 ^ 256 : Nat) := by
      rw [crI_eq hx, cR_eq]
      show (((T % 2 ^ 256 + x * (n % 2 ^ 256)) / 2 ^ 256 : Nat) : Int) = _
      rw [Nat.mod_eq_of_lt hT, Nat.mod_eq_of_lt hn]
    rw [e]
    exact Alike.refl _
  · rw [tnI_eq hx, tnI_eq hx, tnI_eq hx, tnI_eq hx]
    rfl
def fLineTop : Spec := fun args H =>
  match args, H with
  | [.ptr (some (0, 0)), .int .u64 x, .w4 n], [.obj t (.arr .u64 6 [t0, t1, t2, t3, t4, t5])] =>
    some (.tuple [u64 (addS t4 ((num4 t0 t1 t2 t3 + x.toNat * n) / 2 ^ 256 : Nat) 0), .int .u64 (IntKind.wrap .u64 (t5 + (addC t4 ((num4 t0 t1 t2 t3 + x.toNat * n) / 2 ^ 256 : Nat) 0 : Nat)))],
      [.obj t (.arr .u64 6 [limb (num4 t0 t1 t2 t3 + x.toNat * n) 0, limb (num4 t0 t1 t2 t3 + x.toNat * n) 1, limb (num4 t0 t1 t2 t3 + x.toNat * n) 2, limb (num4 t0 t1 t2 t3 + x.toNat * n) 3, t4, t5])],
      [.ile 0 x, .ilt x (2 ^ 64), .lt n (2 ^ 256), .ile 0 t0, .ilt t0 (2 ^ 64), .ile 0 t1, .ilt t1 (2 ^ 64), .ile 0 t2, .ilt t2 (2 ^ 64), .ile 0 t3, .ilt t3 (2 ^ 64)])
  | _, _ => none
noncomputable def l3 : List (FuncId × Spec) := [(211, wide fPlus), (212, wide fMinus), (213, fLine)]
theorem l3_ok (g : Nat) : EnvOk (env l3) g := env_cons (wide_ok (okPlus g)) (env_cons (wide_ok (okMinus g)) (env_cons (okLine g) (env_nil g)))
theorem okLineTop (g : Nat) : Ok g 214 fLineTop := by
  intro args H r H' c h hc L w hs hg hok
  unfold fLineTop at h
  split at h
  case h_2 => cases h
  rename_i x n t t0 t1 t2 t3 t4 t5
  simp only [Option.some.injEq, Prod.mk.injEq] at h
  obtain ⟨rfl, rfl, rfl⟩ := h
  exact go (l3_ok g) noO 90 [] Tryd.func214 (by kernel_rfl) (by kernel_rfl) (by kernel_rfl) (by kernel_rfl) hc (Alike.refl _) rfl hs hg hok
end Go.Am.Sl
namespace Go.Am.Sl
open Go.Am Go.Proofs
/- A PRODUCT -/
/-- a piece of code is run -/
theorem goR {g : Nat} {l : List (FuncId × Spec)} (hE : EnvOk (env l) g) {ds : List Deferred} {n0 : Nat} (O : Opn) (B : List (Nat × Sum)) (n : Nat) (path : List Bool) (keep : List Nat) {c : Code} (hB1 : onceB c B = true) (hB2 : sumsOk (env l) g ds n0 c B) {X Y0 Y : Sta} {e : AEx} {cs : List Cond}
    (h1 : (outS n0 keep (runC (env l) O B n c ⟨X.fr, X.H, path, []⟩)).1 = some (e, some Y0, cs)) (h2 : (outS n0 keep (runC (env l) O B n c ⟨X.fr, X.H, path, []⟩)).2.1 = (outS n0 keep (runC (env l) O B n c ⟨X.fr, X.H, path, []⟩)).2.2) (hc : All cs) (hY : Y0 = Y) : RunTo (env l) g ds n0 c X e Y := by
  subst hY
  exact runTo_of hE (blocksOk_of hB1 hB2) h1 h2 hc
def mulF (a : Nat) (i : Int) : List AVal := frameOf 72 [(0, .ptr (some (0, 0))), (5, .ptr (some (1, 0))), (6, .ptr (some (2, 0))), (7, .ptr (some (3, 0))), (14, .w4 a), (15, .int .i64 i)]
def mulH' (t k b : Nat) (z : AVal) (l : List Int) : AHeap := [.obj t (.md k), .obj 109 (.w4 b), .obj 109 z, .obj 250 (.arr .u64 6 l)]
def zero4 : AVal := .w4 0
def mulX (t k a b i : Nat) : Sta := ⟨mulF a (i : Nat), mulH' t k b zero4 [limb (mT k a b i) 0, limb (mT k a b i) 1, limb (mT k a b i) 2, limb (mT k a b i) 3, (mT k a b i / 2 ^ 256 : Nat), 0]⟩
noncomputable def l4 : List (FuncId × Spec) := [(211, wide fPlus), (212, wide fMinus), (213, fLine), (214, fLineTop)]
theorem l4_ok (g : Nat) : EnvOk (env l4) g := env_cons (wide_ok (okPlus g)) (env_cons (wide_ok (okMinus g)) (env_cons (okLine g) (env_cons (okLineTop g) (env_nil g))))
def u1I (T x b : Nat) : Nat := num4 (limb T 0) (limb T 1) (limb T 2) (limb T 3) + x * b
def mI (k u : Nat) : Int := IntKind.wrap .u64 (limb u 0 * (negK k : Nat))
def u2I (k u : Nat) : Nat := num4 (limb u 0) (limb u 1) (limb u 2) (limb u 3) + (mI k u).toNat * Pk k
def sI (T u : Nat) : Int := (addS ((T / 2 ^ 256 : Nat) : Int) ((u / 2 ^ 256 : Nat) : Int) 0 : Nat)
theorem wrap_bd (z : Int) : (0 : Int) ≤ IntKind.wrap .u64 z ∧ IntKind.wrap .u64 z < 2 ^ 64 := by
  have : IntKind.u64.wrap z = z % 2 ^ 64 := by
    unfold IntKind.wrap
    exact if_neg (by rintro h; cases h)
  rw [this]
  exact ⟨Int.emod_nonneg _ (by decide), Int.emod_lt_of_pos _ (by decide)⟩
theorem wrapi (n : Nat) (h : n ≤ 1099511627776) : IntKind.wrap .i64 (n : Int) = n := wrap_small (Int.natCast_nonneg _) (by omega)
def mulCs (k a b T i : Nat) : List Cond := [.tt (decide ((i : Int) < 4) == true), .ile 0 (i : Nat), .ilt (i : Nat) 4, .lt (i * 1) 4, .ile 0 (limb a (i * 1)), .ilt (limb a (i * 1)) (2 ^ 64), .lt b (2 ^ 256),
  .ile 0 (limb T 0), .ilt (limb T 0) (2 ^ 64), .ile 0 (limb T 1), .ilt (limb T 1) (2 ^ 64), .ile 0 (limb T 2), .ilt (limb T 2) (2 ^ 64), .ile 0 (limb T 3), .ilt (limb T 3) (2 ^ 64),
  .ile 0 (mI k (u1I T (limb a (i * 1)).toNat b)), .ilt (mI k (u1I T (limb a (i * 1)).toNat b)) (2 ^ 64), .lt (Pk k) (2 ^ 256),
  .ile 0 (limb (u1I T (limb a (i * 1)).toNat b) 0), .ilt (limb (u1I T (limb a (i * 1)).toNat b) 0) (2 ^ 64), .ile 0 (limb (u1I T (limb a (i * 1)).toNat b) 1), .ilt (limb (u1I T (limb a (i * 1)).toNat b) 1) (2 ^ 64),
  .ile 0 (limb (u1I T (limb a (i * 1)).toNat b) 2), .ilt (limb (u1I T (limb a (i * 1)).toNat b) 2) (2 ^ 64), .ile 0 (limb (u1I T (limb a (i * 1)).toNat b) 3), .ilt (limb (u1I T (limb a (i * 1)).toNat b) 3) (2 ^ 64)]
theorem mulCs_ok {k a b T i : Nat} (hi : i < 4) (hb : b < 2 ^ 256) : All (mulCs k a b T i) := by
  have e1 : (decide ((i : Int) < 4) == true) = true := by simp; omega
  have q : ∀ n j, (0 : Int) ≤ limb n j := limb_nonneg
  have q2 : ∀ n j, limb n j < 2 ^ 64 := limb_ltI
  have h1 : (0 : Int) ≤ (i : Nat) := Int.natCast_nonneg _
  have h2 : ((i : Nat) : Int) < 4 := by omega
  have h3 : i * 1 < 4 := by omega
  exact ⟨e1, h1, h2, h3, q _ _, q2 _ _, hb, q _ _, q2 _ _, q _ _, q2 _ _, q _ _, q2 _ _, q _ _, q2 _ _, (wrap_bd _).1, (wrap_bd _).2, Pk_lt k, q _ _, q2 _ _, q _ _, q2 _ _, q _ _, q2 _ _, q _ _, q2 _ _, trivial⟩
noncomputable def mulBody : Code := loopOf (theB 0 (bodyOf Tryd.f155))
theorem mulRound (g t k a b i : Nat) (hi : i < 4) (hb : b < Pk k) : RunTo (env l4) g [] 1 mulBody (mulX t k a b i) .normal (mulX t k a b (i + 1)) := by
  have hb2 : b < 2 ^ 256 := Nat.lt_trans hb (Pk_lt k)
  have hT := mT_lt k a b hb i
  generalize hTT : mT k a b i = T at hT
  have hnext : mT k a b (i + 1) = mR k b T (limb a (i * 1)).toNat := by rw [Nat.mul_one, limb_nat, ← hTT]; rfl
  refine goR (l4_ok g) ⟨[16], [4]⟩ [] 90 [true] [0, 5, 6, 7, 14, 15] (by kernel_rfl) trivial (X := mulX t k a b i)
    (Y0 := ⟨mulF a (IntKind.wrap .i64 (i + 1)), mulH' t k b zero4 [limb (u2I k (u1I T (limb a (i * 1)).toNat b)) 1, limb (u2I k (u1I T (limb a (i * 1)).toNat b)) 2, limb (u2I k (u1I T (limb a (i * 1)).toNat b)) 3,
      (addS (sI T (u1I T (limb a (i * 1)).toNat b)) ((u2I k (u1I T (limb a (i * 1)).toNat b) / 2 ^ 256 : Nat) : Int) 0 : Nat),
      IntKind.wrap .u64 ((addC ((T / 2 ^ 256 : Nat) : Int) ((u1I T (limb a (i * 1)).toNat b / 2 ^ 256 : Nat) : Int) 0 : Nat) + (addC (sI T (u1I T (limb a (i * 1)).toNat b)) ((u2I k (u1I T (limb a (i * 1)).toNat b) / 2 ^ 256 : Nat) : Int) 0 : Nat)), 0]⟩)
    (cs := mulCs k a b T i) ?_ ?_ (mulCs_ok hi hb2) ?_
  · rw [mulX, hTT]; kernel_rfl
  · rw [mulX, hTT]; kernel_rfl
  · have hx : (limb a (i * 1)).toNat < 2 ^ 64 := limb_lt a _
    obtain ⟨e1, e2, e3, e4, e5⟩ := round_words k b T (limb a (i * 1)).toNat hb hT hx
    have w1 : IntKind.wrap .i64 ((i : Int) + 1) = ((i + 1 : Nat) : Int) := wrapi (i + 1) (by omega)
    rw [mulX, hnext, w1]
    refine congrArg (Sta.mk _) ?_
    unfold mulH'
    rw [show limb (u2I k (u1I T (limb a (i * 1)).toNat b)) 1 = _ from e1, show limb (u2I k (u1I T (limb a (i * 1)).toNat b)) 2 = _ from e2, show limb (u2I k (u1I T (limb a (i * 1)).toNat b)) 3 = _ from e3, show ((addS (sI T (u1I T (limb a (i * 1)).toNat b)) ((u2I k (u1I T (limb a (i * 1)).toNat b) / 2 ^ 256 : Nat) : Int) 0 : Nat) : Int) = _ from e4,
      show IntKind.wrap .u64 ((addC ((T / 2 ^ 256 : Nat) : Int) ((u1I T (limb a (i * 1)).toNat b / 2 ^ 256 : Nat) : Int) 0 : Nat) + (addC (sI T (u1I T (limb a (i * 1)).toNat b)) ((u2I k (u1I T (limb a (i * 1)).toNat b) / 2 ^ 256 : Nat) : Int) 0 : Nat)) = _ from e5]
/-- a block that is told for one state -/
def toldB (n0 : Nat) (id : Nat) (keep : List Nat) (X0 : Sta) (e : AEx) (Y : Sta) : Nat × Sum := (id, sumR n0 keep fun X => some (e, Y, [.prop (AlikeS X X0)]))
theorem toldB_ok {E : Env} {g : Nat} {ds : List Deferred} {n0 : Nat} {c : Code} {id : Nat} {keep : List Nat} {X0 Y : Sta} {e : AEx} (h : RunTo E g ds n0 c X0 e Y) : SumOk E g ds n0 c (toldB n0 id keep X0 e Y).2 := by
  show SumOk E g ds n0 c (sumR n0 keep fun X => some (e, Y, [.prop (AlikeS X X0)]))
  refine sumR_ok ?_
  intro X e' Y' cs hf hc
  simp only [Option.some.injEq, Prod.mk.injEq] at hf
  obtain ⟨rfl, rfl, rfl⟩ := hf
  exact h.alike hc.1 (AlikeS.refl _)
theorem mulExit (g t k a b : Nat) : RunTo (env l4) g [] 1 mulBody (mulX t k a b 4) (.exit 0) (mulX t k a b 4) :=
  goR (l4_ok g) noO [] 90 [] [0, 5, 6, 7, 14, 15] (by kernel_rfl) trivial (X := mulX t k a b 4) (cs := []) (by kernel_rfl) (by kernel_rfl) trivial rfl
theorem mulLoop (g t k a b : Nat) (hb : b < Pk k) : RunTo (env l4) g [] 1 (.block 0 (theB 0 (bodyOf Tryd.f155))) (mulX t k a b 0) .normal (mulX t k a b 4) := by
  have e : theB 0 (bodyOf Tryd.f155) = .loop mulBody := by kernel_rfl
  rw [e]
  refine RunTo.block (RunTo.loop (fun i => i ≤ 4) (fun i => 4 - i) (mulX t k a b) (fun _ => (.exit 0, mulX t k a b 4)) ?_ 0 (by decide))
  intro i hi
  rcases Nat.lt_or_ge i 4 with h | h
  · exact .inl ⟨i + 1, by omega, by omega, rfl, mulRound g t k a b i h hb⟩
  · obtain rfl : i = 4 := by omega
    exact .inr ⟨(by intro h; cases h), mulExit g t k a b⟩
def fMulW : Spec := fun args H =>
  match args, H with
  | [.ptr (some (0, 0)), .w4 a, .w4 b], [.obj t (.md k)] => some (.w4 (mm k a b), [.obj t (.md k)], [.lt b (Pk k)])
  | _, _ => none
theorem eq_bool {a b : Int} (h : a = b) : ((a == b) == true) = true := by subst h; simp
theorem ne_bool {a b : Int} (h : a ≠ b) : ((a == b) == false) = true := by simp [h]
theorem okMulW (g : Nat) : Ok g 155 fMulW := by
  intro args H r H' c h hc L w hs hg hok
  unfold fMulW at h
  split at h
  case h_2 => cases h
  rename_i a b t k
  simp only [Option.some.injEq, Prod.mk.injEq] at h
  obtain ⟨rfl, rfl, rfl⟩ := h
  have hb : b < Pk k := hc.1
  have hT := mT_lt k a b hb 4
  have hP := Pk_lt k
  have hP2 := Pk_gt k
  have hB : sumsOk (env l4) g [] 1 (bodyOf Tryd.f155) [toldB 1 0 [0, 5, 6, 7, 14, 15] (mulX t k a b 0) .normal (mulX t k a b 4)] := ⟨toldB_ok (id := 0) (mulLoop g t k a b hb), trivial⟩
  unfold mm
  generalize hTT : mT k a b 4 = T at hT
  have hX4 : mulX t k a b 4 = ⟨mulF a 4, mulH' t k b zero4 [limb T 0, limb T 1, limb T 2, limb T 3, (T / 2 ^ 256 : Nat), 0]⟩ := by rw [mulX, hTT]; rfl
  rw [hX4] at hB
  have q : ∀ n j, (0 : Int) ≤ limb n j := limb_nonneg
  have q2 : ∀ n j, limb n j < 2 ^ 64 := limb_ltI
  have hn4 : num4 (limb T 0) (limb T 1) (limb T 2) (limb T 3) = T % 2 ^ 256 := num4_limb T
  have hlt : num4 (limb T 0) (limb T 1) (limb T 2) (limb T 3) < 2 ^ 256 := by rw [hn4]; exact Nat.mod_lt _ (by decide)
  have sub : ∀ (hge : ¬ T < Pk k), Alike (.w4 ((num4 (limb T 0) (limb T 1) (limb T 2) (limb T 3) + (2 ^ 256 - Pk k)) % 2 ^ 256)) (.w4 (T - Pk k)) := by
    intro hge
    have e : ∀ j, j < 4 → limb ((num4 (limb T 0) (limb T 1) (limb T 2) (limb T 3) + (2 ^ 256 - Pk k)) % 2 ^ 256) j = limb (T - Pk k) j := by
      intro j hj
      rw [hn4, ← limb_mod (T - Pk k) j hj]
      congr 1
      omega
    exact alike_w4' (e 0 (by decide)) (e 1 (by decide)) (e 2 (by decide)) (e 3 (by decide))
  by_cases h0 : T / 2 ^ 256 = 0
  · by_cases h1 : T < Pk k
    · rw [if_pos h1]
      refine goB (H := [.obj t (.md k)]) (l4_ok g) ⟨[66, 69], []⟩ _ 90 [true, true] Tryd.func155 (by kernel_rfl) (by kernel_rfl) (by kernel_rfl) hB
        (r0 := .arr .u64 4 [limb T 0, limb T 1, limb T 2, limb T 3]) (H0 := [.obj t (.md k)])
        (cs := [.prop (AlikeS (mulX t k a b 0) (mulX t k a b 0)), .ile 0 (limb T 0), .ilt (limb T 0) (2 ^ 64), .ile 0 (limb T 1), .ilt (limb T 1) (2 ^ 64), .ile 0 (limb T 2), .ilt (limb T 2) (2 ^ 64), .ile 0 (limb T 3), .ilt (limb T 3) (2 ^ 64),
          .lt (num4 (limb T 0) (limb T 1) (limb T 2) (limb T 3)) (2 ^ 256), .lt (Pk k) (2 ^ 256), .tt ((((T / 2 ^ 256 : Nat) : Int) == 0) == true),
          .tt ((((if num4 (limb T 0) (limb T 1) (limb T 2) (limb T 3) < Pk k then 1 else 0 : Nat) : Int) == 1) == true)])
        (by kernel_rfl) (by kernel_rfl) ⟨AlikeS.refl _, q _ _, q2 _ _, q _ _, q2 _ _, q _ _, q2 _ _, q _ _, q2 _ _, hlt, hP, eq_bool (by rw [h0]; rfl), eq_bool (by rw [if_pos (by rw [hn4]; omega)]; rfl), trivial⟩
        (alike_w4 rfl rfl rfl rfl) rfl hs hg hok
    · rw [if_neg h1]
      refine goB (H := [.obj t (.md k)]) (l4_ok g) ⟨[66, 69], []⟩ _ 90 [true, false] Tryd.func155 (by kernel_rfl) (by kernel_rfl) (by kernel_rfl) hB
        (r0 := .w4 ((num4 (limb T 0) (limb T 1) (limb T 2) (limb T 3) + (2 ^ 256 - Pk k)) % 2 ^ 256)) (H0 := [.obj t (.md k)])
        (cs := [.prop (AlikeS (mulX t k a b 0) (mulX t k a b 0)), .ile 0 (limb T 0), .ilt (limb T 0) (2 ^ 64), .ile 0 (limb T 1), .ilt (limb T 1) (2 ^ 64), .ile 0 (limb T 2), .ilt (limb T 2) (2 ^ 64), .ile 0 (limb T 3), .ilt (limb T 3) (2 ^ 64),
          .lt (num4 (limb T 0) (limb T 1) (limb T 2) (limb T 3)) (2 ^ 256), .lt (Pk k) (2 ^ 256), .tt ((((T / 2 ^ 256 : Nat) : Int) == 0) == true),
          .tt ((((if num4 (limb T 0) (limb T 1) (limb T 2) (limb T 3) < Pk k then 1 else 0 : Nat) : Int) == 1) == false)])
        (by kernel_rfl) (by kernel_rfl) ⟨AlikeS.refl _, q _ _, q2 _ _, q _ _, q2 _ _, q _ _, q2 _ _, q _ _, q2 _ _, hlt, hP, eq_bool (by rw [h0]; rfl), ne_bool (by rw [if_neg (by rw [hn4]; omega)]; decide), trivial⟩
        (sub h1) rfl hs hg hok
  · have h1 : ¬ T < Pk k := by omega
    rw [if_neg h1]
    refine goB (H := [.obj t (.md k)]) (l4_ok g) ⟨[66, 69], []⟩ _ 90 [false, false] Tryd.func155 (by kernel_rfl) (by kernel_rfl) (by kernel_rfl) hB
      (r0 := .w4 ((num4 (limb T 0) (limb T 1) (limb T 2) (limb T 3) + (2 ^ 256 - Pk k)) % 2 ^ 256)) (H0 := [.obj t (.md k)])
      (cs := [.prop (AlikeS (mulX t k a b 0) (mulX t k a b 0)), .ile 0 (limb T 0), .ilt (limb T 0) (2 ^ 64), .ile 0 (limb T 1), .ilt (limb T 1) (2 ^ 64), .ile 0 (limb T 2), .ilt (limb T 2) (2 ^ 64), .ile 0 (limb T 3), .ilt (limb T 3) (2 ^ 64),
        .lt (num4 (limb T 0) (limb T 1) (limb T 2) (limb T 3)) (2 ^ 256), .lt (Pk k) (2 ^ 256), .tt ((((T / 2 ^ 256 : Nat) : Int) == 0) == false), .tt true])
      (by kernel_rfl) (by kernel_rfl) ⟨AlikeS.refl _, q _ _, q2 _ _, q _ _, q2 _ _, q _ _, q2 _ _, q _ _, q2 _ _, hlt, hP, ne_bool (by omega), rfl, trivial⟩
      (sub h1) rfl hs hg hok
end Go.Am.Sl
namespace Go.Am.Sl
open Go.Am Go.Proofs
/- ELEMENTS -/
theorem alike_fe {n k : Nat} {z : Int} (h : n = mform k z) : Alike (.w4 n) (.fe k z) := by
  subst h
  exact ⟨fun _ => rfl, fun _ => rfl, fun _ h => h, rfl⟩
def same2 (i j k : Nat) : Cond := .tt (Nat.beq i k && Nat.beq j k)
theorem same2_ok {i j k : Nat} (h : (same2 i j k).holds) : i = k ∧ j = k := by
  have h : (Nat.beq i k && Nat.beq j k) = true := h
  simp only [Bool.and_eq_true] at h
  exact ⟨Nat.eq_of_beq_eq_true h.1, Nat.eq_of_beq_eq_true h.2⟩
def fMul : Spec := fun args H =>
  match args, H with
  | [.ptr (some (0, 0)), .fe i x, .fe j y], [.obj t (.md k)] => some (.fe k (x * y), [.obj t (.md k)], [same2 i j k])
  | args, H => wide fMulW args H
theorem okMul (g : Nat) : Ok g 155 fMul := by
  intro args H r H' c h hc L w hs hg hok
  unfold fMul at h
  split at h
  · rename_i j x i y t k
    simp only [Option.some.injEq, Prod.mk.injEq] at h
    obtain ⟨rfl, rfl, rfl⟩ := h
    obtain ⟨rfl, rfl⟩ := same2_ok hc.1
    have := wide_ok (okMulW g) [.ptr (some (0, 0)), .fe i x, .fe i y] [.obj t (.md i)] (.w4 (mm i (mform i x) (mform i y))) [.obj t (.md i)] [.lt (mform i y) (Pk i)] rfl ⟨mform_lt i y, trivial⟩ L w hs hg hok
    exact this.mono fun e w' h => h.alike (alike_fe (mm_fe i x y))
  · exact wide_ok (okMulW g) _ _ _ _ _ h hc L w hs hg hok
def fAdd : Spec := fun args H =>
  match args, H with
  | [.ptr (some (0, 0)), .fe i x, .fe j y], [.obj t (.md k)] => some (.fe k (x + y), [.obj t (.md k)], [same2 i j k])
  | _, _ => none
def fSub : Spec := fun args H =>
  match args, H with
  | [.ptr (some (0, 0)), .fe i x, .fe j y], [.obj t (.md k)] => some (.fe k (x - y), [.obj t (.md k)], [same2 i j k])
  | _, _ => none
theorem add_fe (k : Nat) (x y : Int) {n : Nat} (h : n < Pk k) (e : (n : Int) = (mform k x : Nat) + (mform k y : Nat) ∨ (n : Int) = (mform k x : Nat) + (mform k y : Nat) - (Pk k : Nat)) : n = mform k (x + y) := by
  refine mform_of h ?_
  have h1 := cong_add (mform_cong k x) (mform_cong k y)
  have h2 : cong k (n : Nat) ((mform k x : Nat) + (mform k y : Nat)) := by
    rcases e with e | e
    · rw [e]; exact cong_refl _ _
    · exact cong_iff.2 ⟨-1, by rw [e]; grind⟩
  refine cong_trans h2 (cong_trans h1 (cong_iff.2 ⟨0, by grind⟩))
theorem sub_fe (k : Nat) (x y : Int) {n : Nat} (h : n < Pk k) (e : (n : Int) = (mform k x : Nat) - (mform k y : Nat) ∨ (n : Int) = (mform k x : Nat) - (mform k y : Nat) + (Pk k : Nat)) : n = mform k (x - y) := by
  refine mform_of h ?_
  have h1 := cong_sub (mform_cong k x) (mform_cong k y)
  have h2 : cong k (n : Nat) ((mform k x : Nat) - (mform k y : Nat)) := by
    rcases e with e | e
    · rw [e]; exact cong_refl _ _
    · exact cong_iff.2 ⟨1, by rw [e]; grind⟩
  refine cong_trans h2 (cong_trans h1 (cong_iff.2 ⟨0, by grind⟩))
theorem okAdd (g : Nat) : Ok g 154 fAdd := by
  intro args H r H' c h hc L w hs hg hok
  unfold fAdd at h
  split at h
  case h_2 => cases h
  rename_i j x i y t k
  simp only [Option.some.injEq, Prod.mk.injEq] at h
  obtain ⟨rfl, rfl, rfl⟩ := h
  obtain ⟨rfl, rfl⟩ := same2_ok hc.1
  have hx := mform_lt i x
  have hy := mform_lt i y
  have hP := Pk_lt i
  have hfe := fun n => add_fe i x y (n := n)
  generalize ha : mform i x = a at *
  generalize hb : mform i y = b at *
  have c1 : a < 2 ^ 256 := by omega
  have c2 : b < 2 ^ 256 := by omega
  have c3 : (a + b) % 2 ^ 256 < 2 ^ 256 := Nat.mod_lt _ (by decide)
  by_cases h0 : (a + b) / 2 ^ 256 = 0
  · by_cases h1 : a + b < Pk i
    · refine go (l4_ok g) ⟨[28, 31], []⟩ 90 [true, true] Tryd.func154 (by kernel_rfl) (by kernel_rfl) (args := [.ptr (some (0, 0)), .fe i x, .fe i y]) (H := [.obj t (.md i)])
        (r0 := .w4 ((mform i x + mform i y) % 2 ^ 256)) (H0 := [.obj t (.md i)])
        (cs := [.lt (mform i x) (2 ^ 256), .lt (mform i y) (2 ^ 256), .lt ((mform i x + mform i y) % 2 ^ 256) (2 ^ 256), .lt (Pk i) (2 ^ 256), .tt (((((mform i x + mform i y) / 2 ^ 256 : Nat) : Int) == 0) == true),
          .tt ((((if (mform i x + mform i y) % 2 ^ 256 < Pk i then 1 else 0 : Nat) : Int) == 1) == true)]) (by kernel_rfl) (by kernel_rfl) ?_ ?_ rfl hs hg hok
      · rw [ha, hb]
        exact ⟨c1, c2, c3, hP, eq_bool (by rw [h0]; rfl), eq_bool (by rw [if_pos (by omega)]; rfl), trivial⟩
      · rw [ha, hb]
        exact alike_fe (hfe _ (by omega) (.inl (by omega)))
    · refine go (l4_ok g) ⟨[28, 31], []⟩ 90 [true, false] Tryd.func154 (by kernel_rfl) (by kernel_rfl) (args := [.ptr (some (0, 0)), .fe i x, .fe i y]) (H := [.obj t (.md i)])
        (r0 := .w4 (((mform i x + mform i y) % 2 ^ 256 + (2 ^ 256 - Pk i)) % 2 ^ 256)) (H0 := [.obj t (.md i)])
        (cs := [.lt (mform i x) (2 ^ 256), .lt (mform i y) (2 ^ 256), .lt ((mform i x + mform i y) % 2 ^ 256) (2 ^ 256), .lt (Pk i) (2 ^ 256), .tt (((((mform i x + mform i y) / 2 ^ 256 : Nat) : Int) == 0) == true),
          .tt ((((if (mform i x + mform i y) % 2 ^ 256 < Pk i then 1 else 0 : Nat) : Int) == 1) == false)]) (by kernel_rfl) (by kernel_rfl) ?_ ?_ rfl hs hg hok
      · rw [ha, hb]
        exact ⟨c1, c2, c3, hP, eq_bool (by rw [h0]; rfl), ne_bool (by rw [if_neg (by omega)]; decide), trivial⟩
      · rw [ha, hb]
        exact alike_fe (hfe _ (by omega) (.inr (by omega)))
  · refine go (l4_ok g) ⟨[28, 31], []⟩ 90 [false, false] Tryd.func154 (by kernel_rfl) (by kernel_rfl) (args := [.ptr (some (0, 0)), .fe i x, .fe i y]) (H := [.obj t (.md i)])
      (r0 := .w4 (((mform i x + mform i y) % 2 ^ 256 + (2 ^ 256 - Pk i)) % 2 ^ 256)) (H0 := [.obj t (.md i)])
      (cs := [.lt (mform i x) (2 ^ 256), .lt (mform i y) (2 ^ 256), .lt ((mform i x + mform i y) % 2 ^ 256) (2 ^ 256), .lt (Pk i) (2 ^ 256), .tt (((((mform i x + mform i y) / 2 ^ 256 : Nat) : Int) == 0) == false), .tt true]) (by kernel_rfl) (by kernel_rfl) ?_ ?_ rfl hs hg hok
    · rw [ha, hb]
      exact ⟨c1, c2, c3, hP, ne_bool (by omega), rfl, trivial⟩
    · rw [ha, hb]
      exact alike_fe (hfe _ (by omega) (.inr (by omega)))
theorem okSub (g : Nat) : Ok g 166 fSub := by
  intro args H r H' c h hc L w hs hg hok
  unfold fSub at h
  split at h
  case h_2 => cases h
  rename_i j x i y t k
  simp only [Option.some.injEq, Prod.mk.injEq] at h
  obtain ⟨rfl, rfl, rfl⟩ := h
  obtain ⟨rfl, rfl⟩ := same2_ok hc.1
  have hx := mform_lt i x
  have hy := mform_lt i y
  have hP := Pk_lt i
  have hfe := fun n => sub_fe i x y (n := n)
  generalize ha : mform i x = a at *
  generalize hb : mform i y = b at *
  have c1 : a < 2 ^ 256 := by omega
  have c2 : b < 2 ^ 256 := by omega
  have c3 : (a + (2 ^ 256 - b)) % 2 ^ 256 < 2 ^ 256 := Nat.mod_lt _ (by decide)
  by_cases h0 : a < b
  · refine go (l4_ok g) ⟨[16], []⟩ 90 [true] Tryd.func166 (by kernel_rfl) (by kernel_rfl) (args := [.ptr (some (0, 0)), .fe i x, .fe i y]) (H := [.obj t (.md i)])
      (r0 := .w4 (((mform i x + (2 ^ 256 - mform i y)) % 2 ^ 256 + Pk i) % 2 ^ 256)) (H0 := [.obj t (.md i)])
      (cs := [.lt (mform i x) (2 ^ 256), .lt (mform i y) (2 ^ 256), .tt ((((if mform i x < mform i y then 1 else 0 : Nat) : Int) == 1) == true), .lt ((mform i x + (2 ^ 256 - mform i y)) % 2 ^ 256) (2 ^ 256), .lt (Pk i) (2 ^ 256)]) (by kernel_rfl) (by kernel_rfl) ?_ ?_ rfl hs hg hok
    · rw [ha, hb]
      exact ⟨c1, c2, eq_bool (by rw [if_pos h0]; rfl), c3, hP, trivial⟩
    · rw [ha, hb]
      exact alike_fe (hfe _ (by omega) (.inr (by omega)))
  · refine go (l4_ok g) ⟨[16], []⟩ 90 [false] Tryd.func166 (by kernel_rfl) (by kernel_rfl) (args := [.ptr (some (0, 0)), .fe i x, .fe i y]) (H := [.obj t (.md i)])
      (r0 := .w4 ((mform i x + (2 ^ 256 - mform i y)) % 2 ^ 256)) (H0 := [.obj t (.md i)])
      (cs := [.lt (mform i x) (2 ^ 256), .lt (mform i y) (2 ^ 256), .tt ((((if mform i x < mform i y then 1 else 0 : Nat) : Int) == 1) == false)]) (by kernel_rfl) (by kernel_rfl) ?_ ?_ rfl hs hg hok
    · rw [ha, hb]
      exact ⟨c1, c2, ne_bool (by rw [if_neg h0]; decide), trivial⟩
    · rw [ha, hb]
      exact alike_fe (hfe _ (by omega) (.inl (by omega)))
/-- nothing, as an element -/
def asZ (k : Nat) : AVal → AVal
  | .w4 0 => .fe k 0
  | v => v
theorem asZ_conc (k : Nat) (L : Nat → Loc) (v : AVal) : AVal.conc L (asZ k v) = AVal.conc L v := by
  unfold asZ
  split
  · simp only [AVal.conc, mform_zero]
  · rfl
theorem asZ_ok {A : Nat → Prop} {k : Nat} {v : AVal} (h : AVal.ok A v) : AVal.ok A (asZ k v) := by
  unfold asZ
  split
  · trivial
  · exact h
def zeroed (F : Spec) : Spec := fun args H =>
  match H with
  | [.obj t (.md k)] => F (args.map (asZ k)) [.obj t (.md k)]
  | _ => none
theorem zeroed_ok {g : Nat} {f : FuncId} {F : Spec} (h : Ok g f F) : Ok g f (zeroed F) := by
  intro args H r H' c hF hc L w hs hg hok
  unfold zeroed at hF
  split at hF
  case h_2 => cases hF
  rename_i t k
  have e : AVal.concs L (args.map (asZ k)) = AVal.concs L args := by
    simp only [AVal.concs_map, List.map_map]
    apply List.map_congr_left
    intro v _
    exact asZ_conc k L v
  rw [← e]
  refine h _ _ r H' c hF hc L w hs hg ?_
  rw [AVal.oks_iff] at *
  intro v hv
  obtain ⟨u, hu, rfl⟩ := List.mem_map.1 hv
  exact asZ_ok (hok u hu)
end Go.Am.Sl
namespace Go.Am.Sl
open Go.Am Go.Proofs
/- ELEMENTS AND NUMBERS -/
theorem ck {c : Cond} (h : c.chk = true) : c.holds := Cond.chk_holds c h
noncomputable def l5 : List (FuncId × Spec) := [(155, fMul), (154, zeroed fAdd), (166, zeroed fSub), (211, wide fPlus), (212, wide fMinus)]
theorem l5_ok (g : Nat) : EnvOk (env l5) g := env_cons (okMul g) (env_cons (zeroed_ok (okAdd g)) (env_cons (zeroed_ok (okSub g)) (env_cons (wide_ok (okPlus g)) (env_cons (wide_ok (okMinus g)) (env_nil g)))))
/-- a spec of one shape, by one run -/
def fSquare : Spec := fun args H =>
  match args, H with
  | [.ptr (some (0, 0)), .fe i x], [.obj t (.md k)] => some (.fe k (x * x), [.obj t (.md k)], [same2 i i k])
  | _, _ => none
theorem okSquare (g : Nat) : Ok g 167 fSquare := by
  intro args H r H' c h hc L w hs hg hok
  unfold fSquare at h
  split at h
  case h_2 => cases h
  simp only [Option.some.injEq, Prod.mk.injEq] at h
  obtain ⟨rfl, rfl, rfl⟩ := h
  exact go (l5_ok g) noO 90 [] Tryd.func167 (by kernel_rfl) (by kernel_rfl) (by kernel_rfl) (by kernel_rfl) hc (Alike.refl _) rfl hs hg hok
theorem zero_alike (k : Nat) : AVal.fe k 0 = .fe k 0 := rfl
def fOne : Spec := fun args H =>
  match args, H with
  | [.ptr (some (0, 0))], [.obj t (.md k)] => some (.fe k 1, [.obj t (.md k)], [])
  | _, _ => none
theorem okOne (g : Nat) : Ok g 164 fOne := by
  intro args H r H' c h hc L w hs hg hok
  unfold fOne at h
  split at h
  case h_2 => cases h
  rename_i t k
  simp only [Option.some.injEq, Prod.mk.injEq] at h
  obtain ⟨rfl, rfl, rfl⟩ := h
  refine go (l5_ok g) noO 90 [] Tryd.func164 (by kernel_rfl) (by kernel_rfl) (r0 := .w4 (2 ^ 256 % Pk k)) (H0 := [.obj t (.md k)]) (cs := []) (by kernel_rfl) (by kernel_rfl) trivial (alike_fe ?_) rfl hs hg hok
  refine mform_of (Nat.mod_lt _ (by have := Pk_gt k; omega)) ?_
  have := cong_mod k (2 ^ 256)
  have e : ((2 ^ 256 % Pk k : Nat) : Int) = 2 ^ 256 % (Pk k : Nat) := by
    rw [Int.natCast_emod]
    congr 1
  rw [e]
  exact cong_trans this (cong_iff.2 ⟨0, by simp⟩)
def fInt : Spec := fun args H =>
  match args, H with
  | [.fe k x], [] => some (.fe k x, [], [])
  | [.w4 n], [] => some (.w4 n, [], [])
  | _, _ => none
theorem okInt (g : Nat) : Ok g 215 fInt := by
  intro args H r H' c h hc L w hs hg hok
  unfold fInt at h
  split at h
  case h_3 => cases h
  all_goals
    simp only [Option.some.injEq, Prod.mk.injEq] at h
    obtain ⟨rfl, rfl, rfl⟩ := h
    exact go (l5_ok g) noO 90 [] Tryd.func215 (by kernel_rfl) (by kernel_rfl) (by kernel_rfl) (by kernel_rfl) hc (Alike.refl _) rfl hs hg hok
def fToW : Spec := fun args H =>
  match args, H with
  | [.ptr (some (0, 0)), .w4 n], [.obj t (.md k)] => some (.fe k (n : Nat), [.obj t (.md k)], [.lt n (2 ^ 256)])
  | _, _ => none
theorem okToW (g : Nat) : Ok g 152 fToW := by
  intro args H r H' c h hc L w hs hg hok
  unfold fToW at h
  split at h
  case h_2 => cases h
  rename_i n t k
  simp only [Option.some.injEq, Prod.mk.injEq] at h
  obtain ⟨rfl, rfl, rfl⟩ := h
  have hn : n < 2 ^ 256 := hc.1
  exact go (l5_ok g) noO 90 [] Tryd.func152 (by kernel_rfl) (by kernel_rfl) (r0 := .w4 (mm k n (2 ^ 512 % Pk k))) (H0 := [.obj t (.md k)]) (cs := [.lt (2 ^ 512 % Pk k) (Pk k)]) (by kernel_rfl) (by kernel_rfl) ⟨Nat.mod_lt _ (by have := Pk_gt k; omega), trivial⟩ (alike_fe (mm_to k n hn)) rfl hs hg hok
def fFrom : Spec := fun args H =>
  match args, H with
  | [.ptr (some (0, 0)), .fe i x], [.obj t (.md k)] => some (.w4 (x % (Pk k : Nat)).toNat, [.obj t (.md k)], [same2 i i k])
  | _, _ => none
noncomputable def l6 : List (FuncId × Spec) := (215, fInt) :: l5
theorem l6_ok (g : Nat) : EnvOk (env l6) g := env_cons (okInt g) (l5_ok g)
theorem okFrom (g : Nat) : Ok g 157 fFrom := by
  intro args H r H' c h hc L w hs hg hok
  unfold fFrom at h
  split at h
  case h_2 => cases h
  rename_i j x t i
  simp only [Option.some.injEq, Prod.mk.injEq] at h
  obtain ⟨rfl, rfl, rfl⟩ := h
  obtain ⟨rfl, _⟩ := same2_ok hc.1
  have hP := Pk_gt j
  refine go (l6_ok g) noO 90 [] Tryd.func157 (by kernel_rfl) (by kernel_rfl) (r0 := .w4 (mm j (mform j x) 1)) (H0 := [.obj t (.md j)]) (cs := [.ile 0 1, .ilt 1 (2 ^ 64), .ile 0 0, .ilt 0 (2 ^ 64), .ile 0 0, .ilt 0 (2 ^ 64), .ile 0 0, .ilt 0 (2 ^ 64), .lt 1 (Pk j)]) (by kernel_rfl) (by kernel_rfl)
    ⟨ck rfl, ck rfl, ck rfl, ck rfl, ck rfl, ck rfl, ck rfl, ck rfl, (by show 1 < Pk j; omega), trivial⟩ ?_ rfl hs hg hok
  rw [mm_from]
  exact Alike.refl _
def fNeg : Spec := fun args H =>
  match args, H with
  | [.ptr (some (0, 0)), .fe i x], [.obj t (.md k)] => some (.fe k (0 - x), [.obj t (.md k)], [same2 i i k])
  | _, _ => none
def fBit : Spec := fun args H =>
  match args, H with
  | [.w4 n, .int .i64 i], [] => some (u64 (n / 2 ^ i.toNat % 2), [], [.ile 0 i, .ilt i 256])
  | _, _ => none
theorem bit_law (n i : Nat) (hi : i < 256) : bitsI BinOp.and IntKind.u64 (Int.fdiv (limb n (0 + Int.toNat (IntKind.wrap IntKind.i64 (Int.tdiv i 64)) * 1)) (2 ^ min (Int.toNat (Int.tmod i 64)) 64)) 1 = ((n / 2 ^ i % 2 : Nat) : Int) := by
  have e1 : Int.tdiv (i : Int) 64 = ((i / 64 : Nat) : Int) := by
    rw [Int.tdiv_eq_ediv_of_nonneg (Int.natCast_nonneg _)]
    exact (Int.natCast_ediv i 64).symm
  have e2 : Int.tmod (i : Int) 64 = ((i % 64 : Nat) : Int) := by
    rw [Int.tmod_eq_emod_of_nonneg (Int.natCast_nonneg _)]
    exact (Int.natCast_emod i 64).symm
  rw [e1, e2, wrapi _ (by omega), toNat_cast, toNat_cast, Nat.min_eq_left (by omega)]
  rw [Nat.zero_add, Nat.mul_one, limb_def]
  have e3 : Int.fdiv ((n / 2 ^ (64 * (i / 64)) % 2 ^ 64 : Nat) : Int) (2 ^ (i % 64)) = ((n / 2 ^ (64 * (i / 64)) % 2 ^ 64 / 2 ^ (i % 64) : Nat) : Int) := by
    have : (2 : Int) ^ (i % 64) = ((2 ^ (i % 64) : Nat) : Int) := by norm_cast
    rw [this, Int.fdiv_eq_ediv_of_nonneg _ (Int.natCast_nonneg _)]
    exact (Int.natCast_ediv _ _).symm
  rw [e3]
  have hlt : n / 2 ^ (64 * (i / 64)) % 2 ^ 64 / 2 ^ (i % 64) < 2 ^ 64 := Nat.lt_of_le_of_lt (Nat.div_le_self _ _) (Nat.mod_lt _ (by decide))
  have e4 : ∀ a : Nat, a < 2 ^ 64 → bitsI .and .u64 (a : Int) 1 = ((a % 2 : Nat) : Int) := by
    intro a ha
    have : (BitVec.ofInt 64 (a : Int) &&& BitVec.ofInt 64 1).toNat = a % 2 := by
      rw [BitVec.toNat_and]
      have e1 : (BitVec.ofInt 64 (a : Int)).toNat = a := by
        rw [BitVec.toNat_ofInt]
        have : ((a : Int) % ((2 ^ 64 : Nat) : Int)).toNat = a % 2 ^ 64 := by norm_cast
        rw [this, Nat.mod_eq_of_lt ha]
      have e2 : (BitVec.ofInt 64 1).toNat = 2 ^ 1 - 1 := by decide
      rw [e1, e2, Nat.and_two_pow_sub_one_eq_mod]
    show IntKind.u64.wrap (((BitVec.ofInt 64 (a : Int) &&& BitVec.ofInt 64 1).toNat : Nat) : Int) = _
    rw [this, wrapu, Nat.mod_eq_of_lt]
    omega
  rw [e4 _ hlt]
  congr 1
  have hm : n / 2 ^ (64 * (i / 64)) % 2 ^ 64 / 2 ^ (i % 64) = n / 2 ^ (64 * (i / 64)) / 2 ^ (i % 64) % 2 ^ (64 - i % 64) := by
    have : (2 : Nat) ^ 64 = 2 ^ (i % 64) * 2 ^ (64 - i % 64) := by rw [← Nat.pow_add]; congr 1; omega
    rw [this, Nat.mod_mul_right_div_self]
  rw [hm, Nat.div_div_eq_div_mul, ← Nat.pow_add]
  have : 64 * (i / 64) + i % 64 = i := by omega
  rw [this]
  exact Nat.mod_mod_of_dvd _ (by
    have : (2 : Nat) = 2 ^ 1 := rfl
    conv => lhs; rw [this]
    exact Nat.pow_dvd_pow 2 (by omega))
theorem okBit (g : Nat) : Ok g 171 fBit := by
  intro args H r H' c h hc L w hs hg hok
  unfold fBit at h
  split at h
  case h_2 => cases h
  rename_i n i
  simp only [Option.some.injEq, Prod.mk.injEq] at h
  obtain ⟨rfl, rfl, rfl⟩ := h
  obtain ⟨h0, h1, _⟩ := hc
  have h0 : (0 : Int) ≤ i := h0
  have h1 : i < 256 := h1
  obtain ⟨i, rfl⟩ := Int.eq_ofNat_of_zero_le h0
  have hi : i < 256 := by omega
  have e1 : Int.tdiv (i : Int) 64 = ((i / 64 : Nat) : Int) := by
    rw [Int.tdiv_eq_ediv_of_nonneg (Int.natCast_nonneg _)]
    exact (Int.natCast_ediv i 64).symm
  have w1 : IntKind.wrap .i64 (Int.tdiv (i : Int) 64) = ((i / 64 : Nat) : Int) := by rw [e1]; exact wrapi _ (by omega)
  have e2 : (0 : Int) ≤ Int.tmod (i : Int) 64 := Int.tmod_nonneg _ (Int.natCast_nonneg _)
  refine go (l5_ok g) ⟨[], [1]⟩ 90 [] Tryd.func171 (by kernel_rfl) (by kernel_rfl)
    (r0 := .int .u64 (bitsI BinOp.and IntKind.u64 (Int.fdiv (limb n (0 + Int.toNat (IntKind.wrap IntKind.i64 (Int.tdiv i 64)) * 1)) (2 ^ min (Int.toNat (Int.tmod i 64)) 64)) 1)) (H0 := [])
    (cs := [.tt true, .ile 0 (IntKind.wrap .i64 (Int.tdiv i 64)), .ilt (IntKind.wrap .i64 (Int.tdiv i 64)) 4, .lt (0 + Int.toNat (IntKind.wrap .i64 (Int.tdiv i 64)) * 1) 4, .tt true, .ile 0 (Int.tmod i 64)]) (by kernel_rfl) (by kernel_rfl) ?_ ?_ rfl hs hg hok
  · rw [w1]
    refine ⟨rfl, Int.natCast_nonneg _, ?_, ?_, rfl, e2, trivial⟩
    · show ((i / 64 : Nat) : Int) < 4; omega
    · show 0 + ((i / 64 : Nat) : Int).toNat * 1 < 4; rw [toNat_cast]; omega
  · rw [bit_law n i hi]
    exact Alike.refl _
def fLess : Spec := fun args H =>
  match args, H with
  | [.w4 a, .w4 b], [] => some (.bool (decide (a < b)), [], [.lt a (2 ^ 256), .lt b (2 ^ 256)])
  | _, _ => none
theorem okLess (g : Nat) : Ok g 158 fLess := by
  intro args H r H' c h hc L w hs hg hok
  unfold fLess at h
  split at h
  case h_2 => cases h
  rename_i a b
  simp only [Option.some.injEq, Prod.mk.injEq] at h
  obtain ⟨rfl, rfl, rfl⟩ := h
  refine go (l5_ok g) noO 90 [] Tryd.func158 (by kernel_rfl) (by kernel_rfl) (r0 := .bool (((if a < b then 1 else 0 : Nat) : Int) == 1)) (H0 := []) (by kernel_rfl) (by kernel_rfl) hc ?_ rfl hs hg hok
  have : (((if a < b then 1 else 0 : Nat) : Int) == 1) = decide (a < b) := by
    by_cases hab : a < b <;> simp [hab]
  rw [this]
  exact Alike.refl _
def fZero : Spec := fun args H =>
  match args, H with
  | [.w4 n], [] => some (.bool (decide (n = 0)), [], [.lt n (2 ^ 256)])
  | _, _ => none
theorem okZero (g : Nat) : Ok g 173 fZero := by
  intro args H r H' c h hc L w hs hg hok
  unfold fZero at h
  split at h
  case h_2 => cases h
  rename_i n
  simp only [Option.some.injEq, Prod.mk.injEq] at h
  obtain ⟨rfl, rfl, rfl⟩ := h
  have hn : n < 2 ^ 256 := hc.1
  refine go (l5_ok g) noO 90 [] Tryd.func173 (by kernel_rfl) (by kernel_rfl) (r0 := .bool (eqIs [limb n 0, limb n 1, limb n 2, limb n 3] [limb 0 0, limb 0 1, limb 0 2, limb 0 3])) (H0 := []) (cs := []) (by kernel_rfl) (by kernel_rfl) trivial ?_ rfl hs hg hok
  rw [limbs_inj hn (by decide)]
  exact Alike.refl _
def fZeroE : Spec := fun args H =>
  match args, H with
  | [.fe k x], [] => some (.bool (feq k x 0), [], [])
  | _, _ => none
theorem okZeroE (g : Nat) : Ok g 175 fZeroE := by
  intro args H r H' c h hc L w hs hg hok
  unfold fZeroE at h
  split at h
  case h_2 => cases h
  rename_i k x
  simp only [Option.some.injEq, Prod.mk.injEq] at h
  obtain ⟨rfl, rfl, rfl⟩ := h
  refine go (l5_ok g) noO 90 [] Tryd.func175 (by kernel_rfl) (by kernel_rfl) (r0 := .bool (eqIs [limb (mform k x) 0, limb (mform k x) 1, limb (mform k x) 2, limb (mform k x) 3] [limb 0 0, limb 0 1, limb 0 2, limb 0 3])) (H0 := []) (cs := []) (by kernel_rfl) (by kernel_rfl) trivial ?_ rfl hs hg hok
  have := eqIs_fe k x 0
  rw [mform_zero] at this
  rw [this]
  exact Alike.refl _
end Go.Am.Sl
namespace Go.Am.Sl
open Go.Am Go.Proofs
/- POWERS -/
def fTo : Spec := wide fToW
noncomputable def l7 : List (FuncId × Spec) := [(164, fOne), (167, fSquare), (171, fBit), (152, fTo)] ++ l6
theorem l7_ok (g : Nat) : EnvOk (env l7) g := env_cons (okOne g) (env_cons (okSquare g) (env_cons (okBit g) (env_cons (wide_ok (okToW g)) (l6_ok g))))
def powF (i : Int) : List AVal := frameOf 27 [(0, .ptr (some (0, 0))), (4, .ptr (some (1, 0))), (5, .ptr (some (2, 0))), (6, .ptr (some (3, 0))), (7, .ptr (some (4, 0))), (8, .int .i64 i)]
def powX (t k n : Nat) (x o i : Int) : Sta := ⟨powF i, [.obj t (.md k), .obj 109 (.fe k x), .obj 119 (.w4 n), .obj 109 (.w4 0), .obj 109 (.fe k o)]⟩
noncomputable def powBody : Code := loopOf (theB 0 (bodyOf Tryd.f216))
theorem same2_rfl (k : Nat) : (same2 k k k).holds := by
  show (Nat.beq k k && Nat.beq k k) = true
  simp
theorem powRound (g t k n : Nat) (x o : Int) (i : Nat) (hi : i < 256) : RunTo (env l7) g [] 1 powBody (powX t k n x o i) .normal (powX t k n x (if n / 2 ^ i % 2 = 1 then o * o * x else o * o) ((i : Int) - 1)) := by
  have hw : IntKind.wrap .i64 ((i : Int) - 1) = (i : Int) - 1 := wrapI (by omega) (by omega)
  have c1 : (decide ((i : Int) ≥ 0) == true) = true := by simp
  have c2 : (0 : Int) ≤ (i : Nat) := Int.natCast_nonneg _
  have c3 : ((i : Nat) : Int) < 256 := by omega
  by_cases hb : n / 2 ^ i % 2 = 1
  · rw [if_pos hb]
    refine goR (l7_ok g) ⟨[12, 21], []⟩ [] 90 [true, true] [0, 4, 5, 6, 7, 8] (by kernel_rfl) trivial (X := powX t k n x o i) (Y0 := powX t k n x (o * o * x) (IntKind.wrap .i64 ((i : Int) - 1)))
      (cs := [.tt (decide ((i : Int) ≥ 0) == true), same2 k k k, .ile 0 (i : Nat), .ilt (i : Nat) 256, .tt ((((n / 2 ^ i % 2 : Nat) : Int) == 1) == true), same2 k k k]) (by kernel_rfl) (by kernel_rfl)
      ⟨c1, same2_rfl k, c2, c3, eq_bool (by rw [hb]; rfl), same2_rfl k, trivial⟩ (by rw [hw])
  · rw [if_neg hb]
    refine goR (l7_ok g) ⟨[12, 21], []⟩ [] 90 [true, false] [0, 4, 5, 6, 7, 8] (by kernel_rfl) trivial (X := powX t k n x o i) (Y0 := powX t k n x (o * o) (IntKind.wrap .i64 ((i : Int) - 1)))
      (cs := [.tt (decide ((i : Int) ≥ 0) == true), same2 k k k, .ile 0 (i : Nat), .ilt (i : Nat) 256, .tt ((((n / 2 ^ i % 2 : Nat) : Int) == 1) == false)]) (by kernel_rfl) (by kernel_rfl)
      ⟨c1, same2_rfl k, c2, c3, ne_bool (by omega), trivial⟩ (by rw [hw])
theorem powExit (g t k n : Nat) (x o : Int) : RunTo (env l7) g [] 1 powBody (powX t k n x o (-1)) (.exit 0) (powX t k n x o (-1)) :=
  goR (l7_ok g) noO [] 90 [] [0, 4, 5, 6, 7, 8] (by kernel_rfl) trivial (X := powX t k n x o (-1)) (cs := []) (by kernel_rfl) (by kernel_rfl) trivial rfl
theorem pow_step (x : Int) (n i : Nat) : (if n / 2 ^ i % 2 = 1 then x ^ (n / 2 ^ (i + 1)) * x ^ (n / 2 ^ (i + 1)) * x else x ^ (n / 2 ^ (i + 1)) * x ^ (n / 2 ^ (i + 1))) = x ^ (n / 2 ^ i) := by
  have e : n / 2 ^ (i + 1) = n / 2 ^ i / 2 := by rw [Nat.pow_succ, Nat.div_div_eq_div_mul]
  rw [e]
  generalize n / 2 ^ i = m
  rw [← Int.pow_add]
  split
  · rename_i h
    rw [← Int.pow_succ]
    congr 1
    omega
  · congr 1
    omega
theorem powLoop (g t k n : Nat) (x : Int) (hn : n < 2 ^ 256) : RunTo (env l7) g [] 1 (.block 0 (theB 0 (bodyOf Tryd.f216))) (powX t k n x 1 255) .normal (powX t k n x (x ^ n) (-1)) := by
  have e : theB 0 (bodyOf Tryd.f216) = .loop powBody := by kernel_rfl
  rw [e]
  have key := RunTo.loop (E := env l7) (g := g) (ds := []) (n0 := 1) (c := powBody) (fun j => j ≤ 256) (fun j => j) (fun j => powX t k n x (x ^ (n / 2 ^ j)) ((j : Int) - 1)) (fun _ => (.exit 0, powX t k n x (x ^ n) (-1))) ?_ 256 (by decide)
  · have h0 : n / 2 ^ 256 = 0 := Nat.div_eq_of_lt hn
    simp only [h0, Int.pow_zero] at key
    exact RunTo.block key
  · intro j hj
    cases j with
    | zero =>
      refine .inr ⟨(by intro h; cases h), ?_⟩
      have := powExit g t k n x (x ^ n)
      simp only [Nat.pow_zero, Nat.div_one]
      exact this
    | succ j =>
      refine .inl ⟨j, by omega, by omega, rfl, ?_⟩
      have := powRound g t k n x (x ^ (n / 2 ^ (j + 1))) j (by omega)
      rw [pow_step] at this
      have e2 : ((j + 1 : Nat) : Int) - 1 = j := by omega
      simp only [e2]
      exact this
/-- a power -/
def powI (x : Int) (n : Nat) : Int := x ^ n
def fPow : Spec := fun args H =>
  match args, H with
  | [.ptr (some (0, 0)), .fe i x, .w4 n], [.obj t (.md k)] => some (.fe k (powI x n), [.obj t (.md k)], [same2 i i k, .lt n (2 ^ 256)])
  | _, _ => none
theorem okPow (g : Nat) : Ok g 216 fPow := by
  intro args H r H' c h hc L w hs hg hok
  unfold fPow at h
  split at h
  case h_2 => cases h
  rename_i j x n t i
  simp only [Option.some.injEq, Prod.mk.injEq] at h
  obtain ⟨rfl, rfl, rfl⟩ := h
  obtain ⟨rfl, _⟩ := same2_ok hc.1
  have hn : n < 2 ^ 256 := hc.2.1
  have hB : sumsOk (env l7) g [] 1 (bodyOf Tryd.f216) [toldB 1 0 [0, 4, 5, 6, 7, 8] (powX t j n x 1 255) .normal (powX t j n x (powI x n) (-1))] := ⟨toldB_ok (id := 0) (powLoop g t j n x hn), trivial⟩
  exact goB (H := [.obj t (.md j)]) (l7_ok g) noO _ 90 [] Tryd.func216 (by kernel_rfl) (by kernel_rfl) (by kernel_rfl) hB (r0 := .fe j (powI x n)) (H0 := [.obj t (.md j)])
    (cs := [.prop (AlikeS (powX t j n x 1 255) (powX t j n x 1 255))]) (by kernel_rfl) (by kernel_rfl) ⟨AlikeS.refl _, trivial⟩ (Alike.refl _) rfl hs hg hok
noncomputable def l8 : List (FuncId × Spec) := (216, fPow) :: l7
theorem l8_ok (g : Nat) : EnvOk (env l8) g := env_cons (okPow g) (l7_ok g)
def fInv : Spec := fun args H =>
  match args, H with
  | [.ptr (some (0, 0)), .fe i x], [.obj t (.md k)] => some (.fe k (powI x (Pk k - 2)), [.obj t (.md k)], [same2 i i k])
  | _, _ => none
theorem okInv (g : Nat) : Ok g 176 fInv := by
  intro args H r H' c h hc L w hs hg hok
  unfold fInv at h
  split at h
  case h_2 => cases h
  rename_i j x t i
  simp only [Option.some.injEq, Prod.mk.injEq] at h
  obtain ⟨rfl, rfl, rfl⟩ := h
  obtain ⟨rfl, _⟩ := same2_ok hc.1
  have hP := Pk_lt j
  have hP2 := Pk_gt j
  refine go (l8_ok g) noO 90 [] Tryd.func176 (by kernel_rfl) (by kernel_rfl) (r0 := .fe j (powI x ((Pk j + (2 ^ 256 - num4 2 0 0 0)) % 2 ^ 256))) (H0 := [.obj t (.md j)])
    (cs := [.ile 0 2, .ilt 2 (2 ^ 64), .ile 0 0, .ilt 0 (2 ^ 64), .ile 0 0, .ilt 0 (2 ^ 64), .ile 0 0, .ilt 0 (2 ^ 64), .lt (Pk j) (2 ^ 256), .lt (num4 2 0 0 0) (2 ^ 256), same2 j j j, .lt ((Pk j + (2 ^ 256 - num4 2 0 0 0)) % 2 ^ 256) (2 ^ 256)]) (by kernel_rfl) (by kernel_rfl)
    ⟨ck rfl, ck rfl, ck rfl, ck rfl, ck rfl, ck rfl, ck rfl, ck rfl, hP, ck rfl, same2_rfl j, Nat.mod_lt _ (by decide), trivial⟩ ?_ rfl hs hg hok
  have e : (Pk j + (2 ^ 256 - num4 2 0 0 0)) % 2 ^ 256 = Pk j - 2 := by
    have : num4 2 0 0 0 = 2 := by decide
    rw [this]
    omega
  rw [e]
  exact Alike.refl _
theorem okNeg (g : Nat) : Ok g 180 fNeg := by
  intro args H r H' c h hc L w hs hg hok
  unfold fNeg at h
  split at h
  case h_2 => cases h
  rename_i j x t i
  simp only [Option.some.injEq, Prod.mk.injEq] at h
  obtain ⟨rfl, rfl, rfl⟩ := h
  exact go (l8_ok g) noO 90 [] Tryd.func180 (by kernel_rfl) (by kernel_rfl) (r0 := .fe i (0 - x)) (H0 := [.obj t (.md i)]) (cs := [same2 i j i]) (by kernel_rfl) (by kernel_rfl) ⟨(by
    obtain ⟨rfl, _⟩ := same2_ok hc.1
    exact same2_rfl j), trivial⟩ (Alike.refl _) rfl hs hg hok
def fSmall : Spec := fun args H =>
  match args, H with
  | [.ptr (some (0, 0)), .int .u64 n], [.obj t (.md k)] => some (.fe k n, [.obj t (.md k)], [.ile 0 n, .ilt n (2 ^ 64)])
  | _, _ => none
theorem okSmall (g : Nat) : Ok g 168 fSmall := by
  intro args H r H' c h hc L w hs hg hok
  unfold fSmall at h
  split at h
  case h_2 => cases h
  rename_i n t k
  simp only [Option.some.injEq, Prod.mk.injEq] at h
  obtain ⟨rfl, rfl, rfl⟩ := h
  obtain ⟨c1, c2, _⟩ := hc
  have c1' : (0 : Int) ≤ n := c1
  have c2' : n < 2 ^ 64 := c2
  obtain ⟨n, rfl⟩ := Int.eq_ofNat_of_zero_le c1'
  have e : num4 n 0 0 0 = n := by simp [num4]
  refine go (l8_ok g) noO 90 [] Tryd.func168 (by kernel_rfl) (by kernel_rfl) (r0 := .fe k (num4 n 0 0 0 : Nat)) (H0 := [.obj t (.md k)])
    (cs := [.ile 0 n, .ilt n (2 ^ 64), .ile 0 0, .ilt 0 (2 ^ 64), .ile 0 0, .ilt 0 (2 ^ 64), .ile 0 0, .ilt 0 (2 ^ 64), .lt (num4 n 0 0 0) (2 ^ 256)]) (by kernel_rfl) (by kernel_rfl)
    ⟨c1, c2, ck rfl, ck rfl, ck rfl, ck rfl, ck rfl, ck rfl, (by show num4 n 0 0 0 < 2 ^ 256; rw [e]; omega), trivial⟩ ?_ rfl hs hg hok
  rw [e]
  exact Alike.refl _
end Go.Am.Sl
namespace Go.Am.Sl
open Go.Am Go.Proofs
/- BYTES AND NUMBERS -/
def fbF (p off len : Nat) (i : Int) : List AVal := frameOf 32 [(0, .bsl 0 p off len), (2, .ptr (some (1, 0))), (6, .bsl 0 p off len), (7, .int .i64 (len : Nat)), (8, .int .i64 i)]
def fbX (tb p off len : Nat) (v : AVal) (xs : List Int) (i : Int) : Sta := ⟨fbF p off len i, [.buf tb .u8 xs, .obj 119 v]⟩
noncomputable def fbBody : Code := loopOf (theB 0 (bodyOf Tryd.f91))
theorem alikeS_fb {tb p off len : Nat} {v v' : AVal} {xs : List Int} {i : Int} (h : Alike v v') : AlikeS (fbX tb p off len v xs i) (fbX tb p off len v' xs i) :=
  ⟨AlikeF.refl _, AlikeB.refl _, ⟨rfl, h⟩, trivial⟩
theorem fbRound (g tb p off len i x : Nat) (M : Nat) (xs : List Int) (h : i < len) (hl : len ≤ 32) (hlen : off + len ≤ xs.length) (hx : xs.getD (off + i) 0 = (x : Nat)) (hx2 : x < 256) (hM : M * 256 ^ (len - 1 - i + 1) < 2 ^ 256) :
    RunTo (env []) g [] 1 fbBody (fbX tb p off len (.w4 (M * 256 ^ (len - 1 - i + 1))) xs i) .normal (fbX tb p off len (.w4 (M * 256 ^ (len - 1 - i + 1) + x * 256 ^ (len - 1 - i))) xs ((i + 1 : Nat) : Int)) := by
  have hput := put_byte M x len i h hl hx2 hM
  generalize hN : M * 256 ^ (len - 1 - i + 1) = N at *
  have hw : IntKind.wrap .i64 ((i : Int) + 1) = ((i + 1 : Nat) : Int) := wrapi (i + 1) (by omega)
  have hq := qI_eq h (show len ≤ 1000000 by omega)
  have hs := sI8_eq h (show len ≤ 1000000 by omega)
  have c1 : (0 : Int) ≤ qI len i := by rw [hq]; exact Int.natCast_nonneg _
  have c2 : qI len i < 4 := by rw [hq]; omega
  have c3 : 0 + (qI len i).toNat * 1 < 4 := by rw [hq, toNat_cast]; omega
  have c4 : (0 : Int) ≤ sI8 len i := by rw [hs]; exact Int.natCast_nonneg _
  have main : RunTo (env []) g [] 1 fbBody (fbX tb p off len (.w4 N) xs i) .normal (fbX tb p off len (.arr .u64 4 (List.set [limb N 0, limb N 1, limb N 2, limb N 3] (0 + (qI len i).toNat * 1)
      (bitsI .or .u64 (limb N (0 + (qI len i).toNat * 1)) (IntKind.wrap .u64 (IntKind.wrap .u64 (xs.getD (off + i) 0) * 2 ^ min (sI8 len i).toNat 64))))) xs ((i + 1 : Nat) : Int)) := by
    refine goR (env_nil g) ⟨[9], [3, 5]⟩ [] 90 [true] [0, 2, 6, 7, 8] (by kernel_rfl) trivial (X := fbX tb p off len (.w4 N) xs i)
      (Y0 := fbX tb p off len (.arr .u64 4 (List.set [limb N 0, limb N 1, limb N 2, limb N 3] (0 + (qI len i).toNat * 1)
        (bitsI .or .u64 (limb N (0 + (qI len i).toNat * 1)) (IntKind.wrap .u64 (IntKind.wrap .u64 (xs.getD (off + i) 0) * 2 ^ min (sI8 len i).toNat 64))))) xs (IntKind.wrap .i64 ((i : Int) + 1)))
      (cs := [.tt (decide ((i : Int) < (len : Nat)) == true), .ile 0 (i : Nat), .ilt (i : Nat) (len : Nat), .le (off + len) xs.length, .lt (off + i) xs.length, .tt true, .ile 0 (qI len i), .ilt (qI len i) 4, .lt (0 + (qI len i).toNat * 1) 4, .tt true, .ile 0 (sI8 len i),
        .ile 0 (qI len i), .ilt (qI len i) 4, .lt (0 + (qI len i).toNat * 1) 4]) (by kernel_rfl) (by kernel_rfl) ?_ (by rw [hw])
    refine ⟨?_, Int.natCast_nonneg _, ?_, hlen, ?_, rfl, c1, c2, c3, rfl, c4, c1, c2, c3, trivial⟩
    · show (decide ((i : Int) < (len : Nat)) == true) = true
      simp; omega
    · show ((i : Nat) : Int) < (len : Nat); omega
    · show off + i < xs.length; omega
  rw [hx, hput] at main
  exact main.alike (AlikeS.refl _) (alikeS_fb (alike_w4 rfl rfl rfl rfl))
theorem fbExit (g tb p off len N : Nat) (xs : List Int) : RunTo (env []) g [] 1 fbBody (fbX tb p off len (.w4 N) xs (len : Nat)) (.exit 0) (fbX tb p off len (.w4 N) xs (len : Nat)) := by
  refine goR (env_nil g) ⟨[9], []⟩ [] 90 [false] [0, 2, 6, 7, 8] (by kernel_rfl) trivial (X := fbX tb p off len (.w4 N) xs (len : Nat)) (cs := [.tt (decide ((len : Int) < (len : Nat)) == false)]) (by kernel_rfl) (by kernel_rfl) ⟨?_, trivial⟩ rfl
  show (decide ((len : Int) < (len : Nat)) == false) = true
  simp
theorem fbLoop (g tb p off len : Nat) (xs : List Int) (hl : len ≤ 32) (hlen : off + len ≤ xs.length) (hb : isB xs) :
    RunTo (env []) g [] 1 (.block 0 (theB 0 (bodyOf Tryd.f91))) (fbX tb p off len (.w4 0) xs 0) .normal (fbX tb p off len (.w4 (be ((xs.drop off).take len))) xs (len : Nat)) := by
  have e : theB 0 (bodyOf Tryd.f91) = .loop fbBody := by kernel_rfl
  rw [e]
  generalize hL : (xs.drop off).take len = L
  have hLl : L.length = len := by rw [← hL]; simp; omega
  have hLb : isB L := by
    intro y hy
    rw [← hL] at hy
    exact hb y (List.mem_of_mem_drop (List.mem_of_mem_take hy))
  have key := RunTo.loop (E := env []) (g := g) (ds := []) (n0 := 1) (c := fbBody) (fun i => i ≤ len) (fun i => len - i) (fun i => fbX tb p off len (.w4 (be (L.take i) * 256 ^ (len - i))) xs (i : Nat)) (fun _ => (.exit 0, fbX tb p off len (.w4 (be L)) xs (len : Nat))) ?_ 0 (Nat.zero_le _)
  · simp only [List.take_zero, Nat.sub_zero] at key
    have h0 : be [] * 256 ^ len = 0 := by simp [be]
    rw [h0] at key
    exact RunTo.block key
  · intro i hi
    rcases Nat.lt_or_ge i len with h | h
    · refine .inl ⟨i + 1, by omega, by omega, rfl, ?_⟩
      have hiL : i < L.length := by omega
      have hgd : xs.getD (off + i) 0 = L[i] := by
        simp only [← hL]
        rw [List.getElem_take, List.getElem_drop, List.getD_eq_getElem?_getD, List.getElem?_eq_getElem (by omega)]
        rfl
      obtain ⟨g0, g1⟩ := hLb L[i] (List.getElem_mem hiL)
      obtain ⟨x, hx⟩ := Int.eq_ofNat_of_zero_le g0
      have hx2 : x < 256 := by omega
      have et : be (L.take (i + 1)) = be (L.take i) * 256 + x := by
        rw [List.take_succ_eq_append_getElem hiL, be_snoc, hx]
        rfl
      have hlt : be (L.take i) < 256 ^ i := by
        have := be_lt (L.take i) fun y hy => hLb y (List.mem_of_mem_take hy)
        rwa [List.length_take, Nat.min_eq_left (by omega)] at this
      have ei : len - i = len - 1 - i + 1 := by omega
      have hM : be (L.take i) * 256 ^ (len - 1 - i + 1) < 2 ^ 256 := by
        rw [← ei]
        calc be (L.take i) * 256 ^ (len - i) < 256 ^ i * 256 ^ (len - i) := Nat.mul_lt_mul_of_pos_right hlt (Nat.pow_pos (by decide))
          _ = 256 ^ len := by rw [← Nat.pow_add]; congr 1; omega
          _ ≤ 256 ^ 32 := Nat.pow_le_pow_right (by decide) hl
          _ = 2 ^ 256 := by decide
      have := fbRound g tb p off len i x (be (L.take i)) xs h hl hlen (by rw [hgd, hx]) hx2 hM
      have e2 : be (L.take (i + 1)) * 256 ^ (len - (i + 1)) = be (L.take i) * 256 ^ (len - 1 - i + 1) + x * 256 ^ (len - 1 - i) := by
        rw [et]
        have : len - (i + 1) = len - 1 - i := by omega
        rw [this, Nat.pow_succ]
        generalize 256 ^ (len - 1 - i) = B
        grind
      simp only [e2, ei]
      exact this
    · have : i = len := by omega
      subst this
      refine .inr ⟨(by intro h; cases h), ?_⟩
      have := fbExit g tb p off i (be L) xs
      rw [List.take_of_length_le (by omega)]
      simp only [Nat.sub_self, Nat.pow_zero, Nat.mul_one]
      exact this
def fFromBytes : Spec := fun args H =>
  match args, H with
  | [.bsl 0 p off len], [.buf tb .u8 xs] => some (.w4 (be ((xs.drop off).take len)), [.buf tb .u8 xs], [.le len 32, .le (off + len) xs.length, .prop (isB xs)])
  | _, _ => none
theorem okFromBytes (g : Nat) : Ok g 91 fFromBytes := by
  intro args H r H' c h hc L w hs hg hok
  unfold fFromBytes at h
  split at h
  case h_2 => cases h
  rename_i p off len tb xs
  simp only [Option.some.injEq, Prod.mk.injEq] at h
  obtain ⟨rfl, rfl, rfl⟩ := h
  obtain ⟨h1, h2, h3, _⟩ := hc
  have hB : sumsOk (env []) g [] 1 (bodyOf Tryd.f91) [toldB 1 0 [0, 2, 6, 7, 8] (fbX tb p off len (.w4 0) xs 0) .normal (fbX tb p off len (.w4 (be ((xs.drop off).take len))) xs (len : Nat))] := ⟨toldB_ok (id := 0) (fbLoop g tb p off len xs h1 h2 h3), trivial⟩
  exact goB (H := [.buf tb .u8 xs]) (env_nil g) noO _ 90 [] Tryd.func91 (by kernel_rfl) (by kernel_rfl) (by kernel_rfl) hB (H0 := [.buf tb .u8 xs])
    (cs := [.prop (AlikeS (fbX tb p off len (.w4 0) xs 0) (fbX tb p off len (.w4 0) xs 0))]) (by kernel_rfl) (by kernel_rfl) ⟨AlikeS.refl _, trivial⟩ (Alike.refl _) rfl hs hg hok
/-- a number as bytes, the highest first -/
def toB (w n : Nat) : List Int := (List.range w).map fun i => ((n / 256 ^ (w - 1 - i) % 256 : Nat) : Int)
def rawB (n : Nat) : List Int := (List.range 32).map fun i => IntKind.wrap .u8 (Int.fdiv (limb n ((31 - i) / 8)) (2 ^ (8 * ((31 - i) % 8))))
theorem wrap8 (a : Nat) : IntKind.wrap .u8 (a : Int) = ((a % 256 : Nat) : Int) := by
  have : IntKind.u8.wrap (a : Int) = (a : Int) % 256 := by
    unfold IntKind.wrap
    exact if_neg (by rintro h; cases h)
  rw [this]
  norm_cast
theorem rawB_eq (n : Nat) : rawB n = toB 32 n := by
  apply List.map_congr_left
  intro i hi
  have hi := List.mem_range.1 hi
  generalize hk : 31 - i = k
  rw [limb_def]
  have e3 : Int.fdiv ((n / 2 ^ (64 * (k / 8)) % 2 ^ 64 : Nat) : Int) (2 ^ (8 * (k % 8))) = ((n / 2 ^ (64 * (k / 8)) % 2 ^ 64 / 2 ^ (8 * (k % 8)) : Nat) : Int) := by
    have : (2 : Int) ^ (8 * (k % 8)) = ((2 ^ (8 * (k % 8)) : Nat) : Int) := by norm_cast
    rw [this, Int.fdiv_eq_ediv_of_nonneg _ (Int.natCast_nonneg _)]
    exact (Int.natCast_ediv _ _).symm
  rw [e3, wrap8]
  congr 1
  have hm : n / 2 ^ (64 * (k / 8)) % 2 ^ 64 / 2 ^ (8 * (k % 8)) = n / 2 ^ (64 * (k / 8)) / 2 ^ (8 * (k % 8)) % 2 ^ (64 - 8 * (k % 8)) := by
    have : (2 : Nat) ^ 64 = 2 ^ (8 * (k % 8)) * 2 ^ (64 - 8 * (k % 8)) := by rw [← Nat.pow_add]; congr 1; omega
    rw [this, Nat.mod_mul_right_div_self]
  rw [hm, Nat.div_div_eq_div_mul, ← Nat.pow_add, pow256]
  have : 64 * (k / 8) + 8 * (k % 8) = 8 * k := by omega
  rw [this]
  exact Nat.mod_mod_of_dvd _ (by
    have : (256 : Nat) = 2 ^ 8 := rfl
    conv => lhs; rw [this]
    exact Nat.pow_dvd_pow 2 (by omega))
def fBytes : Spec := fun args H =>
  match args, H with
  | [.w4 n], [] => some (.bsl 0 0 0 32, [.buf 5 .u8 (toB 32 n)], [])
  | _, _ => none
theorem okBytes (g : Nat) : Ok g 96 fBytes := by
  intro args H r H' c h hc L w hs hg hok
  unfold fBytes at h
  split at h
  case h_2 => cases h
  rename_i n
  simp only [Option.some.injEq, Prod.mk.injEq] at h
  obtain ⟨rfl, rfl, rfl⟩ := h
  exact go (env_nil g) noO 200 [] Tryd.func96 (by kernel_rfl) (by kernel_rfl) (r0 := .bsl 0 0 0 32) (H0 := [.buf 5 .u8 (rawB n)]) (cs := []) (by kernel_rfl) (by kernel_rfl) trivial (Alike.refl _) (by rw [rawB_eq]) hs hg hok
def fOf : Spec := fun args H =>
  match args, H with
  | [.int .i64 (.ofNat k)], [] => bif Nat.blt k 4 then some (.tuple [.ptr (some (0, 0)), .bool true], [.obj 209 (.md k)], []) else none
  | _, _ => none
theorem okOf (g : Nat) : Ok g 163 fOf := by
  intro args H r H' c h hc L w hs hg hok
  unfold fOf at h
  split at h
  case h_2 => cases h
  rename_i k
  obtain ⟨hk, h⟩ := bif_some h
  simp only [Option.some.injEq, Prod.mk.injEq] at h
  obtain ⟨rfl, rfl, rfl⟩ := h
  rw [Nat.blt_eq] at hk
  match k, hk with
  | 0, _ => exact go (env_nil g) noO 200 [] Tryd.func163 (by kernel_rfl) (by kernel_rfl) (cs := []) (by kernel_rfl) (by kernel_rfl) trivial (Alike.refl _) rfl hs hg hok
  | 1, _ => exact go (env_nil g) noO 200 [] Tryd.func163 (by kernel_rfl) (by kernel_rfl) (cs := []) (by kernel_rfl) (by kernel_rfl) trivial (Alike.refl _) rfl hs hg hok
  | 2, _ => exact go (env_nil g) noO 200 [] Tryd.func163 (by kernel_rfl) (by kernel_rfl) (cs := []) (by kernel_rfl) (by kernel_rfl) trivial (Alike.refl _) rfl hs hg hok
  | 3, _ => exact go (env_nil g) noO 200 [] Tryd.func163 (by kernel_rfl) (by kernel_rfl) (cs := []) (by kernel_rfl) (by kernel_rfl) trivial (Alike.refl _) rfl hs hg hok
end Go.Am.Sl
