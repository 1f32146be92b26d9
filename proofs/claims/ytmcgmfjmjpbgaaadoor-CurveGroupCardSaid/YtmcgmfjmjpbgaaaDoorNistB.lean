/- Part of the proof: NistB. -/
import Derived.Test.YtmcgmfjmjpbgaaaDoorNistA
set_option linter.unusedVariables false
set_option maxRecDepth 100000
namespace Go.Am.Sl
open Go.Am Go.Proofs Kr Gp Fe
/- WHAT TWO SIDES HAVE IN COMMON -/
def tmP (zs xs : List Int) : P3 Int := tms (wplus Ops.int bP) ⟨0, 1, 0⟩ (be zs) (rdP xs) 256 ⟨0, 1, 0⟩
def shrL (zs xs : List Int) : List Int := toB 32 (affI (tmP zs xs).x (tmP zs xs).z)
def shrOk (zs xs : List Int) : Prop := feq 2 (tmP zs xs).z 0 = false
/-- the product, held abstract -/
def fTimesG (tm : Nat → P3 Int → P3 Int) : Spec := fun args H =>
  match args, H with
  | [.ptr (some (0, 0)), .w4 n, .agg [.fe 2 x, .fe 2 y, .fe 2 z]], [.obj t (.agg [.ptr (some (1, 0)), .fe 2 b, .agg [.fe 2 gx, .fe 2 gy, .fe 2 gz]]), .obj t1 (.md 2)] =>
    some (ptV (tm n ⟨x, y, z⟩), cvH t t1 b gx gy gz, [.prop (b = bP)])
  | _, _ => none
theorem okTimesG {tm : Nat → P3 Int → P3 Int} (h : tm = fun n P => tms (wplus Ops.int bP) ⟨0, 1, 0⟩ n P 256 ⟨0, 1, 0⟩) (g : Nat) : Ok g 90 (fTimesG tm) := by
  subst h
  intro args H r H' c h hc L w hs hg hok
  unfold fTimesG at h
  split at h
  case h_2 => cases h
  simp only [Option.some.injEq, Prod.mk.injEq] at h
  obtain ⟨rfl, rfl, rfl⟩ := h
  obtain ⟨h1, _⟩ := hc
  have h1 : _ = bP := h1
  subst h1
  exact okTimes g _ _ _ _ [] rfl trivial L w hs hg hok
def fSharedB (sh : List Int → List Int → List Int) : Spec := fun args H =>
  match args, H with
  | [.bsl 0 p off len, .bsl 1 p' off' len'], [.buf tb .u8 xs, .buf tb' .u8 xs'] =>
    some (.tuple [.bsl 2 0 0 32, .int .i64 0], [.buf tb .u8 xs, .buf tb' .u8 xs', .buf 5 .u8 (sh ((xs.drop off).take len) ((xs'.drop off').take len'))],
      [.le (off + len) xs.length, .prop (isB xs), .prop (scOk ((xs.drop off).take len)), .le (off' + len') xs'.length, .prop (isB xs'), .prop (rdOk bP ((xs'.drop off').take len')), .prop (shrOk ((xs.drop off).take len) ((xs'.drop off').take len'))])
  | _, _ => none
theorem okSharedB (g : Nat) : Ok g 25 (fSharedB shrL) := by
  intro args H r H' c h hc L w hs hg hok
  unfold fSharedB at h
  split at h
  case h_2 => cases h
  rename_i p off len p' off' len' tb xs tb' xs'
  simp only [Option.some.injEq, Prod.mk.injEq] at h
  obtain ⟨rfl, rfl, rfl⟩ := h
  obtain ⟨h1, h2, h3, h4, h5, h6, h7, _⟩ := hc
  obtain ⟨tm, htm⟩ : ∃ tm : Nat → P3 Int → P3 Int, tm = fun n P => tms (wplus Ops.int bP) ⟨0, 1, 0⟩ n P 256 ⟨0, 1, 0⟩ := ⟨_, rfl⟩
  have e1 : tmP ((xs.drop off).take len) ((xs'.drop off').take len') = tm (be ((xs.drop off).take len)) (rdP ((xs'.drop off').take len')) := by rw [htm]; rfl
  have h7 : feq 2 (tmP ((xs.drop off).take len) ((xs'.drop off').take len')).z 0 = false := h7
  unfold shrL
  rw [e1] at h7 ⊢
  exact go (env_cons (okTimesG htm g) (l14_ok g)) noO 90 [] Tryd.func25 (by kernel_rfl) (by kernel_rfl)
    (cs := [.le (off + len) xs.length, .prop (isB xs), .prop (scOk ((xs.drop off).take len)), .le (off' + len') xs'.length, .prop (isB xs'), .prop (rdOk bP ((xs'.drop off').take len')), .prop (bP = bP), .tt (feq 2 (tm (be ((xs.drop off).take len)) (rdP ((xs'.drop off').take len'))).z 0 == false)])
    (by kernel_rfl) (by kernel_rfl) ⟨h1, h2, h3, h4, h5, h6, rfl, by show (_ == false) = true; rw [h7]; rfl, trivial⟩ (Alike.refl _) rfl hs hg hok
end Go.Am.Sl
