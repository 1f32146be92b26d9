/- Part of the proof: MeetA. -/
import Derived.Test.YtmcgmfjmjpbgaaaDoorNistB
import Derived.Test.YtmcgmfjmjpbgaaaDoorGroupA
set_option linter.unusedVariables false
set_option maxRecDepth 100000
namespace Go.Am.Sl
open Go.Am Go.Proofs Kr Gp Fe
/- LAW 5: WHAT TWO SIDES HAVE IN COMMON -/
def z0 (l : List Int) : List Int := List.take 32 (List.drop 0 l)
def w0 (l : List Int) : List Int := List.take (List.length l) (List.drop 0 l)
theorem w0_eq (l : List Int) : w0 l = l := by rw [w0, List.drop_zero, List.take_length]
noncomputable def meetL (kf : List UInt8 → List Int) (pub : List Int → List Int) (sh : List Int → List Int → List Int) : List (FuncId × Spec) := [(29, fKeyG kf), (24, fPublic pub), (25, fSharedB sh)]
theorem law5Run (g : Nat) (kf : List UInt8 → List Int) (pub : List Int → List Int) (sh : List Int → List Int → List Int) (hE : EnvOk (env (meetL kf pub sh)) g) (a b : List UInt8)
    (hk : ∀ s, 32 ≤ (kf s).length ∧ isB (kf s) ∧ scOk (z0 (kf s))) {A B : Pt} (fA : pub (z0 (kf a)) = encA A ∧ Pon A) (fB : pub (z0 (kf b)) = encA B ∧ Pon B) (lA : (pub (z0 (kf a))).length = 65) (lB : (pub (z0 (kf b))).length = 65)
    (o1 : shrOk (z0 (kf a)) (w0 (pub (z0 (kf b))))) (o2 : shrOk (z0 (kf b)) (w0 (pub (z0 (kf a))))) (l1 : (sh (z0 (kf a)) (w0 (pub (z0 (kf b))))).length = 32) (e : sh (z0 (kf a)) (w0 (pub (z0 (kf b)))) = sh (z0 (kf b)) (w0 (pub (z0 (kf a)))))
    {L : Nat → Loc} {w : World} (hs : Sim g L [] w) (hg : GlobsOk glob g w) (hok : AVal.oks (Th []) [.str a, .str b]) :
    CallF P 5 (AVal.concs L [.str a, .str b]).toArray w (Back g L [] w (.bool true) []) := by
  have gA : isB (pub (z0 (kf a))) ∧ rdOk bP (w0 (pub (z0 (kf a)))) := good fA
  have gB : isB (pub (z0 (kf b))) ∧ rdOk bP (w0 (pub (z0 (kf b)))) := good fB
  refine go hE ⟨[38, 42, 68], [9]⟩ 90 [false, false, true] Tryd.func5 (by kernel_rfl) (by kernel_rfl) (r0 := .bool true) (H0 := [])
    (cs := [.le 32 (kf a).length, .prop (isB (kf a)), .prop (scOk (z0 (kf a))), .le 32 (kf b).length, .prop (isB (kf b)), .prop (scOk (z0 (kf b))),
      .tt ((bif false then true else ((pub (z0 (kf a))).length : Int) != 65) == false), .tt ((bif false then true else ((pub (z0 (kf b))).length : Int) != 65) == false),
      .le 32 (kf a).length, .prop (isB (kf a)), .prop (scOk (z0 (kf a))), .le (0 + (pub (z0 (kf b))).length) (pub (z0 (kf b))).length, .prop (isB (pub (z0 (kf b)))), .prop (rdOk bP (w0 (pub (z0 (kf b))))), .prop (shrOk (z0 (kf a)) (w0 (pub (z0 (kf b))))),
      .le 32 (kf b).length, .prop (isB (kf b)), .prop (scOk (z0 (kf b))), .le (0 + (pub (z0 (kf a))).length) (pub (z0 (kf a))).length, .prop (isB (pub (z0 (kf a)))), .prop (rdOk bP (w0 (pub (z0 (kf a))))), .prop (shrOk (z0 (kf b)) (w0 (pub (z0 (kf a))))),
      .le 32 (sh (z0 (kf a)) (w0 (pub (z0 (kf b))))).length, .le 32 (sh (z0 (kf b)) (w0 (pub (z0 (kf a))))).length,
      .tt ((bif true then strOf (z0 (sh (z0 (kf a)) (w0 (pub (z0 (kf b)))))) == strOf (z0 (sh (z0 (kf b)) (w0 (pub (z0 (kf a)))))) else false) == true)])
    (by kernel_rfl) (by kernel_rfl) ?_ (Alike.refl _) rfl hs hg hok
  refine ⟨(hk a).1, (hk a).2.1, (hk a).2.2, (hk b).1, (hk b).2.1, (hk b).2.2, ?_, ?_, (hk a).1, (hk a).2.1, (hk a).2.2, le0 _, gB.1, gB.2, o1, (hk b).1, (hk b).2.1, (hk b).2.2, le0 _, gA.1, gA.2, o2, ?_, ?_, ?_, trivial⟩
  · show (_ == false) = true
    rw [lA]; rfl
  · show (_ == false) = true
    rw [lB]; rfl
  · show 32 ≤ _
    rw [l1]; exact Nat.le_refl _
  · show 32 ≤ _
    rw [← e, l1]; exact Nat.le_refl _
  · show (_ == true) = true
    rw [e]
    simp
/- THE MATHEMATICS: q is the order of the point -/
theorem ml_gcd {A : Pt} (hA : Pon A) : ∀ (m n : Nat), ml padd none m A = none → ml padd none n A = none → ml padd none (Nat.gcd m n) A = none := by
  intro m
  induction m using Nat.strongRecOn with
  | _ m ih =>
    intro n hm hn
    rcases Nat.eq_zero_or_pos m with h0 | h0
    · subst h0
      rw [Nat.gcd_zero_left]; exact hn
    · rw [Nat.gcd_rec]
      refine ih (n % m) (Nat.mod_lt _ h0) m ?_ hm
      rw [ag.ml_mod hA hm]; exact hn
theorem pG_ne : pG ≠ none := by intro h; cases h
theorem pq : Pr q256 := gen_q256.prime
/-- a multiple that is nothing -/
theorem ml_none {n : Nat} (h : ml padd none n pG = none) : q256 ∣ n := by
  have h1 := ml_gcd pG_on n q256 h qG
  rcases pq.2 (Nat.gcd n q256) (Nat.gcd_dvd_right _ _) with e | e
  · rw [e, ag.ml_one pG_on] at h1
    exact absurd h1 pG_ne
  · rw [← e]; exact Nat.gcd_dvd_left _ _
theorem ml_ne {x y : Nat} (hx : x ≠ 0) (hx2 : x < q256) (hy : y ≠ 0) (hy2 : y < q256) : ml padd none x (ml padd none y pG) ≠ none := by
  intro h
  rw [← ag.ml_mul x y pG_on] at h
  rcases pr_dvd_mul pq (ml_none h) with d | d
  · exact absurd (Nat.le_of_dvd (Nat.pos_of_ne_zero hx) d) (by omega)
  · exact absurd (Nat.le_of_dvd (Nat.pos_of_ne_zero hy) d) (by omega)
theorem ml_ne1 {x : Nat} (hx : x ≠ 0) (hx2 : x < q256) : ml padd none x pG ≠ none := fun h => absurd (Nat.le_of_dvd (Nat.pos_of_ne_zero hx) (ml_none h)) (by omega)
def xA : Pt → List Int
  | none => []
  | some a => toB 32 a.1.val
theorem shr_law {zs : List Int} (h : be zs < 2 ^ 256) {A : Pt} (hA : Pon A) (hn : ml padd none (be zs) A ≠ none) : shrOk zs (encA A) ∧ shrL zs (encA A) = xA (ml padd none (be zs) A) := by
  have hP := tms_good (be zs) (rdP_enc A) 256 _ _ o_good
  have hR := times_rep h hA (rep_self (A := A))
  unfold shrOk shrL tmP
  generalize tms (wplus Ops.int bP) ⟨0, 1, 0⟩ (be zs) (rdP (encA A)) 256 ⟨0, 1, 0⟩ = P3 at *
  generalize tms jadd pO (be zs) (pj A) 256 pO = Q at *
  generalize ml padd none (be zs) A = B at *
  cases B with
  | none => exact absurd rfl hn
  | some a =>
    obtain ⟨h1, h2, h3⟩ := hR
    refine ⟨by rw [rf_feq hP.z]; exact decide_eq_false h1, ?_⟩
    rw [affI_rf hP.x hP.z, h2]
    have e : a.1 * Q.z * fiv Q.z = a.1 := by
      have := fld_p256.inv Q.z h1
      grind
    rw [e]
    rfl
theorem enc_ne {A : Pt} (h : A ≠ none) : (encA A).length = 65 := by
  cases A with
  | none => exact absurd rfl h
  | some a => exact enc_len a
theorem xA_len {A : Pt} (h : A ≠ none) : (xA A).length = 32 := by
  cases A with
  | none => exact absurd rfl h
  | some a => exact toB_len _ _
def fLaw5 : Spec := fun args H =>
  match args, H with
  | [.str a, .str b], [] => some (.bool true, [], [])
  | _, _ => none
theorem okLaw5 (g : Nat) : Ok g 5 fLaw5 := by
  intro args H r H' c' h hc L w hs hg hok
  unfold fLaw5 at h
  split at h
  case h_2 => cases h
  rename_i a b
  simp only [Option.some.injEq, Prod.mk.injEq] at h
  obtain ⟨rfl, rfl, rfl⟩ := h
  have hk : ∀ s, 32 ≤ (keyL s).length ∧ isB (keyL s) ∧ scOk (z0 (keyL s)) := fun s => key_ok s
  have lt : ∀ s, be (z0 (keyL s)) < q256 := fun s => (hk s).2.2.2.2
  have ne : ∀ s, be (z0 (keyL s)) ≠ 0 := fun s => (hk s).2.2.2.1
  have lt2 : ∀ s, be (z0 (keyL s)) < 2 ^ 256 := fun s => Nat.lt_trans (lt s) q256_lt
  have hp : ∀ s, pubL (z0 (keyL s)) = encA (ml padd none (be (z0 (keyL s))) pG) ∧ Pon (ml padd none (be (z0 (keyL s))) pG) := fun s => ⟨pub_law (lt2 s), ml_on pG_on _⟩
  have l : ∀ s, (pubL (z0 (keyL s))).length = 65 := fun s => by rw [(hp s).1]; exact enc_ne (ml_ne1 (ne s) (lt s))
  have sh : ∀ s t, shrOk (z0 (keyL s)) (w0 (pubL (z0 (keyL t)))) ∧ shrL (z0 (keyL s)) (w0 (pubL (z0 (keyL t)))) = xA (ml padd none (be (z0 (keyL s))) (ml padd none (be (z0 (keyL t))) pG)) := by
    intro s t
    rw [w0_eq, (hp t).1]
    exact shr_law (lt2 s) (ml_on pG_on _) (ml_ne (ne s) (lt s) (ne t) (lt t))
  have hE : EnvOk (env (meetL keyL pubL shrL)) g := env_cons (okKeyG rfl g) (env_cons (okPublic g) (env_cons (okSharedB g) (env_nil g)))
  refine law5Run g keyL pubL shrL hE a b hk (hp a) (hp b) (l a) (l b) (sh a b).1 (sh b a).1 ?_ ?_ hs hg hok
  · rw [(sh a b).2]
    exact xA_len (ml_ne (ne a) (lt a) (ne b) (lt b))
  · rw [(sh a b).2, (sh b a).2, ag.ml_swap _ _ pG_on]
end Go.Am.Sl
