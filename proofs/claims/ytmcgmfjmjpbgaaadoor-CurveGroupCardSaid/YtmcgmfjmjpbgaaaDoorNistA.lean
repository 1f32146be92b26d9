/- Part of the proof: NistA. -/
import Derived.Test.YtmcgmfjmjpbgaaaDoorWordA
import Derived.Test.YtmcgmfjmjpbgaaaDoorMathB
import Derived.Test.YtmcgmfjmjpbgaaaDoorMathA
set_option linter.unusedVariables false
set_option maxRecDepth 100000
namespace Go.Am.Sl
open Go.Am Go.Proofs Kr
/- THE CURVE P-256 -/
theorem cellsL_alike : ∀ {vs vs' : List AVal}, AlikeF vs vs' → ∀ L, AVal.cellsL L vs = AVal.cellsL L vs'
  | [], [], _, _ => rfl
  | v :: vs, v' :: vs', h, L => by simp only [AVal.cellsL, h.1.cells L, cellsL_alike h.2 L]
  | [], _ :: _, h, _ => h.elim
  | _ :: _, [], h, _ => h.elim
theorem alike_agg {vs vs' : List AVal} (h : AlikeF vs vs') : Alike (.agg vs) (.agg vs') := by
  refine ⟨fun L => ?_, fun L => ?_, fun A k => ?_, rfl⟩
  · simp only [AVal.conc, cellsL_alike h L]
  · simp only [AVal.cells, cellsL_alike h L]
  · simp only [AVal.ok] at *
    exact h.oks k
def ptV (P : P3 Int) : AVal := .agg [.fe 2 P.x, .fe 2 P.y, .fe 2 P.z]
theorem allSame (n : Nat) : All (List.replicate n (same2 2 2 2)) := by
  induction n with
  | zero => exact trivial
  | succ n ih => exact ⟨same2_rfl 2, ih⟩
/-- the curve in memory, and its modulus -/
def cvV (m : Nat) (b gx gy gz : Int) : AVal := .agg [.ptr (some (m, 0)), .fe 2 b, .agg [.fe 2 gx, .fe 2 gy, .fe 2 gz]]
noncomputable def l9 : List (FuncId × Spec) := [(176, fInv), (180, fNeg), (168, fSmall), (91, fFromBytes), (96, fBytes), (163, fOf), (157, fFrom), (158, wide fLess), (173, wide fZero), (175, fZeroE)] ++ l8
theorem l9_ok (g : Nat) : EnvOk (env l9) g :=
  env_cons (okInv g) (env_cons (okNeg g) (env_cons (okSmall g) (env_cons (okFromBytes g) (env_cons (okBytes g) (env_cons (okOf g) (env_cons (okFrom g) (env_cons (wide_ok (okLess g)) (env_cons (wide_ok (okZero g)) (env_cons (okZeroE g) (l8_ok g))))))))))
def fCross : Spec := fun args H =>
  match args, H with
  | [.fe 2 a, .fe 2 b, .fe 2 a2, .fe 2 b2, .fe 2 aa, .fe 2 bb, .ptr (some (0, 0))], [.obj t (.ptr (some (1, 0))), .obj t1 (.agg [.ptr (some (2, 0)), .fe 2 cb, .agg [.fe 2 gx, .fe 2 gy, .fe 2 gz]]), .obj t2 (.md 2)] =>
    some (.fe 2 (cross Ops.int a b a2 b2 aa bb), [.obj t (.ptr (some (1, 0))), .obj t1 (cvV 2 cb gx gy gz), .obj t2 (.md 2)], [])
  | _, _ => none
theorem okCross (g : Nat) : Ok g 169 fCross := by
  intro args H r H' c h hc L w hs hg hok
  unfold fCross at h
  split at h
  case h_2 => cases h
  rename_i a b a2 b2 aa bb t t1 cb gx gy gz t2
  simp only [Option.some.injEq, Prod.mk.injEq] at h
  obtain ⟨rfl, rfl, rfl⟩ := h
  exact go (l9_ok g) noO 90 [] Tryd.func169 (by kernel_rfl) (by kernel_rfl) (cs := List.replicate 5 (same2 2 2 2)) (by kernel_rfl) (by kernel_rfl) (allSame 5) (Alike.refl _) rfl hs hg hok
def fThree : Spec := fun args H =>
  match args, H with
  | [.fe 2 a, .ptr (some (0, 0))], [.obj t (.ptr (some (1, 0))), .obj t1 (.agg [.ptr (some (2, 0)), .fe 2 cb, .agg [.fe 2 gx, .fe 2 gy, .fe 2 gz]]), .obj t2 (.md 2)] =>
    some (.fe 2 (three Ops.int a), [.obj t (.ptr (some (1, 0))), .obj t1 (cvV 2 cb gx gy gz), .obj t2 (.md 2)], [])
  | _, _ => none
theorem okThree (g : Nat) : Ok g 170 fThree := by
  intro args H r H' c h hc L w hs hg hok
  unfold fThree at h
  split at h
  case h_2 => cases h
  simp only [Option.some.injEq, Prod.mk.injEq] at h
  obtain ⟨rfl, rfl, rfl⟩ := h
  exact go (l9_ok g) noO 90 [] Tryd.func170 (by kernel_rfl) (by kernel_rfl) (cs := List.replicate 2 (same2 2 2 2)) (by kernel_rfl) (by kernel_rfl) (allSame 2) (Alike.refl _) rfl hs hg hok
noncomputable def l10 : List (FuncId × Spec) := [(169, fCross), (170, fThree)] ++ l9
theorem l10_ok (g : Nat) : EnvOk (env l10) g := env_cons (okCross g) (env_cons (okThree g) (l9_ok g))
/-- the curve in memory -/
def cvH (t t1 : Nat) (b gx gy gz : Int) : AHeap := [.obj t (cvV 1 b gx gy gz), .obj t1 (.md 2)]
def fNothing : Spec := fun args H =>
  match args, H with
  | [.ptr (some (0, 0))], [.obj t (.agg [.ptr (some (1, 0)), .fe 2 b, .agg [.fe 2 gx, .fe 2 gy, .fe 2 gz]]), .obj t1 (.md 2)] => some (ptV ⟨0, 1, 0⟩, cvH t t1 b gx gy gz, [])
  | _, _ => none
theorem okNothing (g : Nat) : Ok g 165 fNothing := by
  intro args H r H' c h hc L w hs hg hok
  unfold fNothing at h
  split at h
  case h_2 => cases h
  simp only [Option.some.injEq, Prod.mk.injEq] at h
  obtain ⟨rfl, rfl, rfl⟩ := h
  have h0 : Alike (.w4 0) (.fe 2 0) := alike_fe (mform_zero 2).symm
  exact go (l9_ok g) noO 90 [] Tryd.func165 (by kernel_rfl) (by kernel_rfl) (r0 := .agg [.w4 0, .fe 2 1, .w4 0]) (cs := []) (by kernel_rfl) (by kernel_rfl) trivial (alike_agg (show AlikeF [.w4 0, .fe 2 1, .w4 0] [.fe 2 0, .fe 2 1, .fe 2 0] from ⟨h0, Alike.refl _, h0, trivial⟩)) rfl hs hg hok
def fPlusP : Spec := fun args H =>
  match args, H with
  | [.ptr (some (0, 0)), .agg [.fe 2 x1, .fe 2 y1, .fe 2 z1], .agg [.fe 2 x2, .fe 2 y2, .fe 2 z2]], [.obj t (.agg [.ptr (some (1, 0)), .fe 2 b, .agg [.fe 2 gx, .fe 2 gy, .fe 2 gz]]), .obj t1 (.md 2)] =>
    some (ptV (wplus Ops.int b ⟨x1, y1, z1⟩ ⟨x2, y2, z2⟩), cvH t t1 b gx gy gz, [])
  | _, _ => none
theorem okPlusP (g : Nat) : Ok g 89 fPlusP := by
  intro args H r H' c h hc L w hs hg hok
  unfold fPlusP at h
  split at h
  case h_2 => cases h
  simp only [Option.some.injEq, Prod.mk.injEq] at h
  obtain ⟨rfl, rfl, rfl⟩ := h
  exact go (l10_ok g) noO 90 [] Tryd.func89 (by kernel_rfl) (by kernel_rfl) (cs := List.replicate 20 (same2 2 2 2)) (by kernel_rfl) (by kernel_rfl) (allSame 20) (Alike.refl _) rfl hs hg hok
end Go.Am.Sl
namespace Go.Am.Sl
open Go.Am Go.Proofs Kr Gp
/- TIMES -/
noncomputable def l11 : List (FuncId × Spec) := [(165, fNothing), (89, fPlusP)] ++ l10
theorem l11_ok (g : Nat) : EnvOk (env l11) g := env_cons (okNothing g) (env_cons (okPlusP g) (l10_ok g))
def ptZ : AVal := .agg [.w4 0, .w4 0, .w4 0]
def tmF (i : Int) : List AVal := frameOf 28 [(0, .ptr (some (0, 0))), (4, .ptr (some (2, 0))), (5, .ptr (some (3, 0))), (6, .ptr (some (4, 0))), (7, .ptr (some (5, 0))), (8, .int .i64 i)]
def tmX (t t1 : Nat) (b gx gy gz : Int) (n : Nat) (P O : P3 Int) (i : Int) : Sta := ⟨tmF i, [.obj t (cvV 1 b gx gy gz), .obj t1 (.md 2), .obj 119 (.w4 n), .obj 111 (ptV P), .obj 111 ptZ, .obj 111 (ptV O)]⟩
noncomputable def tmBody : Code := loopOf (theB 0 (bodyOf Tryd.f90))
theorem tmRound (g t t1 : Nat) (b gx gy gz : Int) (n : Nat) (P O : P3 Int) (i : Nat) (hi : i < 256) : RunTo (env l11) g [] 2 tmBody (tmX t t1 b gx gy gz n P O i) .normal (tmX t t1 b gx gy gz n P (if n / 2 ^ i % 2 = 1 then wplus Ops.int b (wplus Ops.int b O O) P else wplus Ops.int b O O) ((i : Int) - 1)) := by
  have hw : IntKind.wrap .i64 ((i : Int) - 1) = (i : Int) - 1 := wrapI (by omega) (by omega)
  have c1 : (decide ((i : Int) ≥ 0) == true) = true := by simp
  have c2 : (0 : Int) ≤ (i : Nat) := Int.natCast_nonneg _
  have c3 : ((i : Nat) : Int) < 256 := by omega
  by_cases hb : n / 2 ^ i % 2 = 1
  · rw [if_pos hb]
    refine goR (l11_ok g) ⟨[12, 22], []⟩ [] 90 [true, true] [0, 4, 5, 6, 7, 8] (by kernel_rfl) trivial (X := tmX t t1 b gx gy gz n P O i) (Y0 := tmX t t1 b gx gy gz n P (wplus Ops.int b (wplus Ops.int b O O) P) (IntKind.wrap .i64 ((i : Int) - 1)))
      (cs := [.tt (decide ((i : Int) ≥ 0) == true), .ile 0 (i : Nat), .ilt (i : Nat) 256, .tt ((((n / 2 ^ i % 2 : Nat) : Int) == 1) == true)]) (by kernel_rfl) (by kernel_rfl)
      ⟨c1, c2, c3, eq_bool (by rw [hb]; rfl), trivial⟩ (by rw [hw])
  · rw [if_neg hb]
    refine goR (l11_ok g) ⟨[12, 22], []⟩ [] 90 [true, false] [0, 4, 5, 6, 7, 8] (by kernel_rfl) trivial (X := tmX t t1 b gx gy gz n P O i) (Y0 := tmX t t1 b gx gy gz n P (wplus Ops.int b O O) (IntKind.wrap .i64 ((i : Int) - 1)))
      (cs := [.tt (decide ((i : Int) ≥ 0) == true), .ile 0 (i : Nat), .ilt (i : Nat) 256, .tt ((((n / 2 ^ i % 2 : Nat) : Int) == 1) == false)]) (by kernel_rfl) (by kernel_rfl)
      ⟨c1, c2, c3, ne_bool (by omega), trivial⟩ (by rw [hw])
theorem tmExit (g t t1 : Nat) (b gx gy gz : Int) (n : Nat) (P O : P3 Int) : RunTo (env l11) g [] 2 tmBody (tmX t t1 b gx gy gz n P O (-1)) (.exit 0) (tmX t t1 b gx gy gz n P O (-1)) :=
  goR (l11_ok g) noO [] 90 [] [0, 4, 5, 6, 7, 8] (by kernel_rfl) trivial (X := tmX t t1 b gx gy gz n P O (-1)) (cs := []) (by kernel_rfl) (by kernel_rfl) trivial rfl
theorem tmLoop (g t t1 : Nat) (b gx gy gz : Int) (n : Nat) (P : P3 Int) : ∀ (O : P3 Int), RunTo (env l11) g [] 2 (.block 0 (theB 0 (bodyOf Tryd.f90))) (tmX t t1 b gx gy gz n P O 255) .normal (tmX t t1 b gx gy gz n P (tms (wplus Ops.int b) ⟨0, 1, 0⟩ n P 256 O) (-1)) := by
  intro O
  have e : theB 0 (bodyOf Tryd.f90) = .loop tmBody := by kernel_rfl
  rw [e]
  generalize hR : tms (wplus Ops.int b) ⟨0, 1, 0⟩ n P 256 O = R
  let it : Nat → P3 Int := fun j => Nat.rec O (fun k acc => if n / 2 ^ (255 - k) % 2 = 1 then wplus Ops.int b (wplus Ops.int b acc acc) P else wplus Ops.int b acc acc) j
  have hit : ∀ j, j ≤ 256 → tms (wplus Ops.int b) ⟨0, 1, 0⟩ n P (256 - j) (it j) = R := by
    intro j
    induction j with
    | zero => intro _; exact hR
    | succ j ih =>
      intro hj
      have h2 := ih (by omega)
      have e1 : 256 - j = (256 - (j + 1)) + 1 := by omega
      rw [e1] at h2
      simp only [tms] at h2
      have e2 : 256 - (j + 1) = 255 - j := by omega
      rw [e2] at h2 ⊢
      exact h2
  have key := RunTo.loop (E := env l11) (g := g) (ds := []) (n0 := 2) (c := tmBody) (fun j => j ≤ 256) (fun j => 256 - j) (fun j => tmX t t1 b gx gy gz n P (it j) (255 - (j : Int))) (fun _ => (.exit 0, tmX t t1 b gx gy gz n P R (-1))) ?_ 0 (by decide)
  · exact RunTo.block key
  · intro j hj
    rcases Nat.lt_or_ge j 256 with h | h
    · refine .inl ⟨j + 1, by omega, by omega, rfl, ?_⟩
      have := tmRound g t t1 b gx gy gz n P (it j) (255 - j) (by omega)
      have e1 : (((255 - j : Nat) : Int)) = 255 - (j : Int) := by omega
      have e2 : (255 - (j : Int)) - 1 = 255 - ((j + 1 : Nat) : Int) := by omega
      rw [e1, e2] at this
      exact this
    · have hj : j = 256 := by omega
      subst hj
      refine .inr ⟨(by intro h; cases h), ?_⟩
      have h2 := hit 256 (by decide)
      have h3 : it 256 = R := h2
      simp only [h3]
      exact tmExit g t t1 b gx gy gz n P R
def fTimes : Spec := fun args H =>
  match args, H with
  | [.ptr (some (0, 0)), .w4 n, .agg [.fe 2 x, .fe 2 y, .fe 2 z]], [.obj t (.agg [.ptr (some (1, 0)), .fe 2 b, .agg [.fe 2 gx, .fe 2 gy, .fe 2 gz]]), .obj t1 (.md 2)] =>
    some (ptV (tms (wplus Ops.int b) ⟨0, 1, 0⟩ n ⟨x, y, z⟩ 256 ⟨0, 1, 0⟩), cvH t t1 b gx gy gz, [])
  | _, _ => none
theorem okTimes (g : Nat) : Ok g 90 fTimes := by
  intro args H r H' c h hc L w hs hg hok
  unfold fTimes at h
  split at h
  case h_2 => cases h
  rename_i n x y z t b gx gy gz t1
  simp only [Option.some.injEq, Prod.mk.injEq] at h
  obtain ⟨rfl, rfl, rfl⟩ := h
  generalize hR : tms (wplus Ops.int b) ⟨0, 1, 0⟩ n ⟨x, y, z⟩ 256 ⟨0, 1, 0⟩ = R
  have hB : sumsOk (env l11) g [] 2 (bodyOf Tryd.f90) [toldB 2 0 [0, 4, 5, 6, 7, 8] (tmX t t1 b gx gy gz n ⟨x, y, z⟩ ⟨0, 1, 0⟩ 255) .normal (tmX t t1 b gx gy gz n ⟨x, y, z⟩ R (-1))] := ⟨toldB_ok (id := 0) (hR ▸ tmLoop g t t1 b gx gy gz n ⟨x, y, z⟩ ⟨0, 1, 0⟩), trivial⟩
  exact goB (H := [.obj t (cvV 1 b gx gy gz), .obj t1 (.md 2)]) (l11_ok g) noO _ 90 [] Tryd.func90 (by kernel_rfl) (by kernel_rfl) (by kernel_rfl) hB (r0 := ptV R) (H0 := cvH t t1 b gx gy gz)
    (cs := [.prop (AlikeS (tmX t t1 b gx gy gz n ⟨x, y, z⟩ ⟨0, 1, 0⟩ 255) (tmX t t1 b gx gy gz n ⟨x, y, z⟩ ⟨0, 1, 0⟩ 255))]) (by kernel_rfl) (by kernel_rfl) ⟨AlikeS.refl _, trivial⟩ (Alike.refl _) rfl hs hg hok
end Go.Am.Sl
namespace Go.Am.Sl
open Go.Am Go.Proofs Kr Gp
/- POINTS READ AND WRITTEN -/
def bP : Int := 41058363725152142129326129780047268409114441015993725554835256314039467401291
def gXP : Int := 48439561293906451759052585252797914202762949526041747995844080717082404635286
def gYP : Int := 36134250956749795798585127919587881956611106672985015071877198253568414405109
def cvP (t t1 : Nat) : AHeap := [.obj t (.agg [.ptr (some (1, 0)), .fe 2 bP, .agg [.fe 2 gXP, .fe 2 gYP, .fe 2 1]]), .obj t1 (.md 2)]
def fMake : Spec := fun args H =>
  match args, H with
  | [], [] => some (.ptr (some (0, 0)), cvP 127 209, [])
  | _, _ => none
def k64 (a : Int) : List Cond := [.ile 0 a, .ilt a (2 ^ 64)]
theorem okMake (g : Nat) : Ok g 86 fMake := by
  intro args H r H' c h hc L w hs hg hok
  unfold fMake at h
  split at h
  case h_2 => cases h
  simp only [Option.some.injEq, Prod.mk.injEq] at h
  obtain ⟨rfl, rfl, rfl⟩ := h
  refine go (l11_ok g) noO 90 [] Tryd.func86 (by kernel_rfl) (by kernel_rfl)
    (cs := k64 4309448131093880907 ++ (k64 7285987128567378166 ++ (k64 12964664127075681980 ++ (k64 6540974713487397863 ++ ([.lt 41058363725152142129326129780047268409114441015993725554835256314039467401291 (2 ^ 256)] ++
      (k64 17627433388654248598 ++ (k64 8575836109218198432 ++ (k64 17923454489921339634 ++ (k64 7716867327612699207 ++ ([.lt 48439561293906451759052585252797914202762949526041747995844080717082404635286 (2 ^ 256)] ++
      (k64 14678990851816772085 ++ (k64 3156516839386865358 ++ (k64 10297457778147434006 ++ (k64 5756518291402817435 ++ [.lt 36134250956749795798585127919587881956611106672985015071877198253568414405109 (2 ^ 256)]))))))))))))))
    (by kernel_rfl) (by kernel_rfl) ?_ (Alike.refl _) rfl hs hg hok
  refine ⟨?_, ?_, ?_, ?_, ?_, ?_, ?_, ?_, ?_, ?_, ?_, ?_, ?_, ?_, ?_, ?_, ?_, ?_, ?_, ?_, ?_, ?_, ?_, ?_, ?_, ?_, ?_, trivial⟩ <;> (simp only [Cond.holds]; decide)
def fOrder : Spec := fun args H =>
  match args, H with
  | [], [] => some (.ptr (some (0, 0)), [.obj 209 (.md 3)], [])
  | _, _ => none
theorem okOrder (g : Nat) : Ok g 174 fOrder := by
  intro args H r H' c h hc L w hs hg hok
  unfold fOrder at h
  split at h
  case h_2 => cases h
  simp only [Option.some.injEq, Prod.mk.injEq] at h
  obtain ⟨rfl, rfl, rfl⟩ := h
  exact go (l11_ok g) noO 90 [] Tryd.func174 (by kernel_rfl) (by kernel_rfl) (cs := []) (by kernel_rfl) (by kernel_rfl) trivial (Alike.refl _) rfl hs hg hok
def affI (x z : Int) : Nat := (x * powI z (Pk 2 - 2) % (Pk 2 : Nat)).toNat
def fAffine : Spec := fun args H =>
  match args, H with
  | [.ptr (some (0, 0)), .agg [.fe 2 x, .fe 2 y, .fe 2 z]], [.obj t (.agg [.ptr (some (1, 0)), .fe 2 b, .agg [.fe 2 gx, .fe 2 gy, .fe 2 gz]]), .obj t1 (.md 2)] =>
    some (.tuple [.w4 (affI x z), .w4 (affI y z), .bool true], cvH t t1 b gx gy gz, [.tt (feq 2 z 0 == false)])
  | _, _ => none
theorem okAffine (g : Nat) : Ok g 95 fAffine := by
  intro args H r H' c h hc L w hs hg hok
  unfold fAffine at h
  split at h
  case h_2 => cases h
  rename_i x y z t b gx gy gz t1
  simp only [Option.some.injEq, Prod.mk.injEq] at h
  obtain ⟨rfl, rfl, rfl⟩ := h
  exact go (l11_ok g) ⟨[10], []⟩ 90 [false] Tryd.func95 (by kernel_rfl) (by kernel_rfl) (cs := [.tt (feq 2 z 0 == false), .tt true, .tt true, .tt true, .tt true, .tt true]) (by kernel_rfl) (by kernel_rfl) ⟨hc.1, rfl, rfl, rfl, rfl, rfl, trivial⟩ (Alike.refl _) rfl hs hg hok
def fAffineO : Spec := fun args H =>
  match args, H with
  | [.ptr (some (0, 0)), .agg [.fe 2 x, .fe 2 y, .fe 2 z]], [.obj t (.agg [.ptr (some (1, 0)), .fe 2 b, .agg [.fe 2 gx, .fe 2 gy, .fe 2 gz]]), .obj t1 (.md 2)] =>
    some (.tuple [.w4 0, .w4 0, .bool false], cvH t t1 b gx gy gz, [.tt (feq 2 z 0 == true)])
  | _, _ => none
theorem okAffineO (g : Nat) : Ok g 95 fAffineO := by
  intro args H r H' c h hc L w hs hg hok
  unfold fAffineO at h
  split at h
  case h_2 => cases h
  rename_i x y z t b gx gy gz t1
  simp only [Option.some.injEq, Prod.mk.injEq] at h
  obtain ⟨rfl, rfl, rfl⟩ := h
  exact go (l11_ok g) ⟨[10], []⟩ 90 [true] Tryd.func95 (by kernel_rfl) (by kernel_rfl) (cs := [.tt (feq 2 z 0 == true)]) (by kernel_rfl) (by kernel_rfl) ⟨hc.1, trivial⟩ (Alike.refl _) rfl hs hg hok
noncomputable def l12 : List (FuncId × Spec) := [(86, fMake), (174, fOrder), (95, fAffine), (90, fTimes)] ++ l11
theorem l12_ok (g : Nat) : EnvOk (env l12) g := env_cons (okMake g) (env_cons (okOrder g) (env_cons (okAffine g) (env_cons (okTimes g) (l11_ok g))))
noncomputable def l12O : List (FuncId × Spec) := [(95, fAffineO), (90, fTimes)] ++ l11
theorem l12O_ok (g : Nat) : EnvOk (env l12O) g := env_cons (okAffineO g) (env_cons (okTimes g) (l11_ok g))
end Go.Am.Sl
namespace Go.Am.Sl
open Go.Am Go.Proofs Kr Gp
/- POINTS FROM BYTES AND TO BYTES -/
def encP (P : P3 Int) : List Int := bif feq 2 P.z 0 then [0] else 4 :: (toB 32 (affI P.x P.z) ++ toB 32 (affI P.y P.z))
def fEnc : Spec := fun args H =>
  match args, H with
  | [.ptr (some (0, 0)), .agg [.fe 2 x, .fe 2 y, .fe 2 z]], [.obj t (.agg [.ptr (some (1, 0)), .fe 2 b, .agg [.fe 2 gx, .fe 2 gy, .fe 2 gz]]), .obj t1 (.md 2)] =>
    some (.bsl 2 0 0 (encP ⟨x, y, z⟩).length, [.obj t (.agg [.ptr (some (1, 0)), .fe 2 b, .agg [.fe 2 gx, .fe 2 gy, .fe 2 gz]]), .obj t1 (.md 2), .buf 5 .u8 (encP ⟨x, y, z⟩)], [])
  | _, _ => none
theorem okEnc (g : Nat) : Ok g 88 fEnc := by
  intro args H r H' c h hc L w hs hg hok
  unfold fEnc at h
  split at h
  case h_2 => cases h
  rename_i x y z t b gx gy gz t1
  simp only [Option.some.injEq, Prod.mk.injEq] at h
  obtain ⟨rfl, rfl, rfl⟩ := h
  cases hz : feq 2 z 0 with
  | true =>
    have e : encP ⟨x, y, z⟩ = [0] := by unfold encP; rw [hz]; rfl
    rw [e]
    exact go (l12O_ok g) noO 90 [] Tryd.func88 (by kernel_rfl) (by kernel_rfl) (cs := [.tt (feq 2 z 0 == true)]) (by kernel_rfl) (by kernel_rfl) ⟨by show (feq 2 z 0 == true) = true; rw [hz]; rfl, trivial⟩ (Alike.refl _) rfl hs hg hok
  | false =>
    have e : encP ⟨x, y, z⟩ = 4 :: (toB 32 (affI x z) ++ toB 32 (affI y z)) := by unfold encP; rw [hz]; rfl
    have el : (encP ⟨x, y, z⟩).length = 65 := by rw [e]; simp [toB]
    rw [el, e]
    exact go (l12_ok g) noO 90 [] Tryd.func88 (by kernel_rfl) (by kernel_rfl) (cs := [.tt (feq 2 z 0 == false)]) (by kernel_rfl) (by kernel_rfl) ⟨by show (feq 2 z 0 == false) = true; rw [hz]; rfl, trivial⟩ (Alike.refl _) rfl hs hg hok
/-- the same as fTo, with the number's embedding held abstract: the kernel must not reckon with it -/
def fToG (cv : Nat → Int) : Spec := fun args H =>
  match args, H with
  | [.ptr (some (0, 0)), .w4 n], [.obj t (.md k)] => some (.fe k (cv n), [.obj t (.md k)], [.lt n (2 ^ 256)])
  | _, _ => none
theorem okToG {cv : Nat → Int} (h : cv = fun n : Nat => (n : Int)) (g : Nat) : Ok g 152 (fToG cv) := by
  subst h
  exact okToW g
def rdP (zs : List Int) : P3 Int := if zs.length = 1 then ⟨0, 1, 0⟩ else ⟨(be ((zs.drop 1).take 32) : Nat), (be (zs.drop 33) : Nat), 1⟩
def rdOk (b : Int) (zs : List Int) : Prop :=
  (zs.length = 1 ∧ zs.getD 0 0 = 0) ∨
  (zs.length = 65 ∧ zs.getD 0 0 = 4 ∧ be ((zs.drop 1).take 32) < Pk 2 ∧ be (zs.drop 33) < Pk 2 ∧
    feq 2 (((be (zs.drop 33) : Nat) : Int) * (be (zs.drop 33) : Nat)) (((be ((zs.drop 1).take 32) : Nat) : Int) * (((be ((zs.drop 1).take 32) : Nat) : Int) * (be ((zs.drop 1).take 32) : Nat) - 3) + b) = true)
def fRead : Spec := fun args H =>
  match args, H with
  | [.ptr (some (0, 0)), .bsl 1 p off len], [.obj t (.agg [.ptr (some (2, 0)), .fe 2 b, .agg [.fe 2 gx, .fe 2 gy, .fe 2 gz]]), .buf tb .u8 xs, .obj t1 (.md 2)] =>
    some (.tuple [ptV (rdP ((xs.drop off).take len)), .bool true], [.obj t (.agg [.ptr (some (2, 0)), .fe 2 b, .agg [.fe 2 gx, .fe 2 gy, .fe 2 gz]]), .buf tb .u8 xs, .obj t1 (.md 2)],
      [.le (off + len) xs.length, .prop (isB xs), .prop (rdOk b ((xs.drop off).take len))])
  | _, _ => none
theorem getD_part (xs : List Int) (off len : Nat) (h : 0 < len) (hl : off + len ≤ xs.length) : ((xs.drop off).take len).getD 0 0 = xs.getD (off + 0) 0 := by
  simp only [List.getD_eq_getElem?_getD]
  rw [List.getElem?_take_of_lt h, List.getElem?_drop]
theorem part_x (xs : List Int) (off : Nat) : ((((xs.drop off).take 65).drop 1).take 32) = (xs.drop (off + 1)).take 32 := by
  rw [List.drop_take, List.take_take, List.drop_drop]
  rfl
theorem part_y (xs : List Int) (off : Nat) : (((xs.drop off).take 65).drop 33) = (xs.drop (off + 33)).take (65 - 33) := by
  rw [List.drop_take, List.drop_drop]
theorem okRead (g : Nat) : Ok g 87 fRead := by
  intro args H r H' c h hc L w hs hg hok
  unfold fRead at h
  split at h
  case h_2 => cases h
  rename_i p off len t b gx gy gz tb xs t1
  simp only [Option.some.injEq, Prod.mk.injEq] at h
  obtain ⟨rfl, rfl, rfl⟩ := h
  obtain ⟨h1, h2, h3, _⟩ := hc
  have h1 : off + len ≤ xs.length := h1
  have hlen : ((xs.drop off).take len).length = len := by simp; omega
  rcases h3 with ⟨a1, a2⟩ | ⟨a1, a2, a3, a4, a5⟩
  · rw [hlen] at a1
    subst a1
    rw [getD_part xs off 1 (by decide) h1] at a2
    have e : rdP ((xs.drop off).take 1) = ⟨0, 1, 0⟩ := by unfold rdP; rw [if_pos hlen]
    rw [e]
    refine go (l12_ok g) ⟨[14, 19], [1, 3, 5]⟩ 90 [true, true] Tryd.func87 (by kernel_rfl) (by kernel_rfl)
      (cs := [.tt ((((1 : Nat) : Int) == 1) == true), .ile 0 0, .ilt 0 (1 : Nat), .le (off + 1) xs.length, .lt (off + 0) xs.length, .tt ((xs.getD (off + 0) 0 == 0) == true)])
      (by kernel_rfl) (by kernel_rfl) ⟨rfl, Int.le_refl _, by show (0 : Int) < 1; decide, h1, by show off + 0 < xs.length; omega, ?_, trivial⟩ (Alike.refl _) rfl hs hg hok
    show ((xs.getD (off + 0) 0 == 0) == true) = true
    rw [a2]
    rfl
  · rw [hlen] at a1
    subst a1
    rw [getD_part xs off 65 (by decide) h1] at a2
    rw [part_x] at a3
    rw [part_y] at a4
    rw [part_x, part_y] at a5
    have e : rdP ((xs.drop off).take 65) = ⟨(be ((xs.drop (off + 1)).take 32) : Nat), (be ((xs.drop (off + 33)).take (65 - 33)) : Nat), 1⟩ := by
      unfold rdP; rw [if_neg (by rw [hlen]; decide), part_x, part_y]
    rw [e]
    obtain ⟨cv, hcv⟩ : ∃ cv : Nat → Int, cv = fun n : Nat => (n : Int) := ⟨_, rfl⟩
    have hE : EnvOk (env ((152, fToG cv) :: l12)) g := env_cons (okToG hcv g) (l12_ok g)
    generalize hX : be ((xs.drop (off + 1)).take 32) = X at *
    generalize hY : be ((xs.drop (off + 33)).take (65 - 33)) = Y at *
    have hX2 : X < 2 ^ 256 := Nat.lt_trans a3 (by decide)
    have hY2 : Y < 2 ^ 256 := Nat.lt_trans a4 (by decide)
    refine go hE ⟨[14, 25, 30, 48, 59], [1, 3, 5]⟩ 90 [false, false, false, false, false] Tryd.func87 (by kernel_rfl) (by kernel_rfl)
      (r0 := .tuple [.agg [.fe 2 (cv (be ((xs.drop (off + 1)).take 32))), .fe 2 (cv (be ((xs.drop (off + 33)).take (65 - 33)))), .fe 2 1],
        .bool (eqIs [limb (mform 2 (cv (be ((xs.drop (off + 33)).take (65 - 33))) * cv (be ((xs.drop (off + 33)).take (65 - 33))))) 0, limb (mform 2 (cv (be ((xs.drop (off + 33)).take (65 - 33))) * cv (be ((xs.drop (off + 33)).take (65 - 33))))) 1, limb (mform 2 (cv (be ((xs.drop (off + 33)).take (65 - 33))) * cv (be ((xs.drop (off + 33)).take (65 - 33))))) 2, limb (mform 2 (cv (be ((xs.drop (off + 33)).take (65 - 33))) * cv (be ((xs.drop (off + 33)).take (65 - 33))))) 3]
          [limb (mform 2 (cv (be ((xs.drop (off + 1)).take 32)) * (cv (be ((xs.drop (off + 1)).take 32)) * cv (be ((xs.drop (off + 1)).take 32)) - 3) + b)) 0, limb (mform 2 (cv (be ((xs.drop (off + 1)).take 32)) * (cv (be ((xs.drop (off + 1)).take 32)) * cv (be ((xs.drop (off + 1)).take 32)) - 3) + b)) 1, limb (mform 2 (cv (be ((xs.drop (off + 1)).take 32)) * (cv (be ((xs.drop (off + 1)).take 32)) * cv (be ((xs.drop (off + 1)).take 32)) - 3) + b)) 2, limb (mform 2 (cv (be ((xs.drop (off + 1)).take 32)) * (cv (be ((xs.drop (off + 1)).take 32)) * cv (be ((xs.drop (off + 1)).take 32)) - 3) + b)) 3])])
      (H0 := [.obj t (.agg [.ptr (some (2, 0)), .fe 2 b, .agg [.fe 2 gx, .fe 2 gy, .fe 2 gz]]), .buf tb .u8 xs, .obj t1 (.md 2)])
      (cs := [.tt ((((65 : Nat) : Int) == 1) == false), .tt ((((65 : Nat) : Int) != 65) == false), .ile 0 0, .ilt 0 (65 : Nat), .le (off + 65) xs.length, .lt (off + 0) xs.length, .tt ((xs.getD (off + 0) 0 != 4) == false),
        .le (off + 33) xs.length, .ile 0 33, .le 33 33, .ile 0 1, .le 1 33, .le 32 32, .le (off + 1 + 32) xs.length, .prop (isB xs), .le (off + 65) xs.length, .ile 0 33, .le 33 65, .le (off + 65) xs.length, .ile 0 33, .le 33 65, .le (65 - 33) 32, .le (off + 33 + (65 - 33)) xs.length, .prop (isB xs),
        .lt (be ((xs.drop (off + 1)).take 32)) (2 ^ 256), .lt (Pk 2) (2 ^ 256), .tt ((!decide (be ((xs.drop (off + 1)).take 32) < Pk 2)) == false),
        .lt (be ((xs.drop (off + 33)).take (65 - 33))) (2 ^ 256), .lt (Pk 2) (2 ^ 256), .tt ((!decide (be ((xs.drop (off + 33)).take (65 - 33)) < Pk 2)) == false),
        .lt (be ((xs.drop (off + 1)).take 32)) (2 ^ 256), .lt (be ((xs.drop (off + 33)).take (65 - 33))) (2 ^ 256), .tt true, .ile 0 3, .ilt 3 18446744073709551616, .tt true, .tt true, .tt true, .tt true])
      (by kernel_rfl) (by kernel_rfl) ?_ ?_ rfl hs hg hok
    · rw [hX, hY]
      refine ⟨rfl, rfl, Int.le_refl _, by show (0 : Int) < 65; decide, h1, by show off + 0 < xs.length; omega, ?_, by show off + 33 ≤ xs.length; omega, ?_, Nat.le_refl _, ?_, ?_, Nat.le_refl _, by show off + 1 + 32 ≤ xs.length; omega, h2, h1, ?_, ?_, h1, ?_, ?_, ?_, by show off + 33 + (65 - 33) ≤ xs.length; omega, h2,
        hX2, ?_, ?_, hY2, ?_, ?_, hX2, hY2, rfl, ?_, ?_, rfl, rfl, rfl, rfl, trivial⟩
      · show ((xs.getD (off + 0) 0 != 4) == false) = true
        rw [a2]; rfl
      all_goals first | (show (_ : Int) ≤ _; decide) | (show (_ : Nat) ≤ _; decide) | (show (_ : Nat) < _; decide) | (show (_ : Int) < _; decide) | skip
      · show ((!decide (X < Pk 2)) == false) = true
        rw [decide_eq_true a3]; rfl
      · show ((!decide (Y < Pk 2)) == false) = true
        rw [decide_eq_true a4]; rfl
    · rw [hX, hY, eqIs_fe, hcv, a5]
      exact Alike.refl _
end Go.Am.Sl
namespace Go.Am.Sl
open Go.Am Go.Proofs Kr Gp
/- SCALARS -/
noncomputable def l13 : List (FuncId × Spec) := [(88, fEnc), (87, fRead)] ++ l12
theorem l13_ok (g : Nat) : EnvOk (env l13) g := env_cons (okEnc g) (env_cons (okRead g) (l12_ok g))
def scOk (zs : List Int) : Prop := zs.length = 32 ∧ be zs ≠ 0 ∧ be zs < Pk 3
def fScalar : Spec := fun args H =>
  match args, H with
  | [.bsl 0 p off len], [.buf tb .u8 xs] => some (.tuple [.w4 (be ((xs.drop off).take len)), .bool true], [.buf tb .u8 xs], [.le (off + len) xs.length, .prop (isB xs), .prop (scOk ((xs.drop off).take len))])
  | _, _ => none
theorem okScalar (g : Nat) : Ok g 94 fScalar := by
  intro args H r H' c h hc L w hs hg hok
  unfold fScalar at h
  split at h
  case h_2 => cases h
  rename_i p off len tb xs
  simp only [Option.some.injEq, Prod.mk.injEq] at h
  obtain ⟨rfl, rfl, rfl⟩ := h
  obtain ⟨h1, h2, ⟨a1, a2, a3⟩, _⟩ := hc
  have h1 : off + len ≤ xs.length := h1
  have hlen : ((xs.drop off).take len).length = len := by simp; omega
  rw [hlen] at a1
  subst a1
  generalize hX : be ((xs.drop off).take 32) = X at *
  have hX2 : X < 2 ^ 256 := Nat.lt_trans a3 (by decide)
  rw [← hX]
  refine go (l13_ok g) ⟨[7, 15], []⟩ 90 [false, true] Tryd.func94 (by kernel_rfl) (by kernel_rfl)
    (r0 := .tuple [.w4 (be ((xs.drop off).take 32)), .bool (decide (be ((xs.drop off).take 32) < Pk 3))]) (H0 := [.buf tb .u8 xs])
    (cs := [.tt ((((32 : Nat) : Int) != 32) == false), .le 32 32, .le (off + 32) xs.length, .prop (isB xs), .lt (be ((xs.drop off).take 32)) (2 ^ 256), .tt ((!decide (be ((xs.drop off).take 32) = 0)) == true), .lt (be ((xs.drop off).take 32)) (2 ^ 256), .lt (Pk 3) (2 ^ 256)])
    (by kernel_rfl) (by kernel_rfl) ?_ ?_ rfl hs hg hok
  · rw [hX]
    refine ⟨rfl, Nat.le_refl _, h1, h2, hX2, ?_, hX2, ?_, trivial⟩
    · show ((!decide (X = 0)) == true) = true
      rw [decide_eq_false a2]; rfl
    · show Pk 3 < 2 ^ 256
      decide
  · rw [hX, decide_eq_true a3]
    exact Alike.refl _
noncomputable def l14 : List (FuncId × Spec) := (94, fScalar) :: l13
theorem l14_ok (g : Nat) : EnvOk (env l14) g := env_cons (okScalar g) (l13_ok g)
end Go.Am.Sl
namespace Go.Am.Sl
open Go.Am Go.Proofs Kr Gp
/- THE PUBLIC FUNCTIONS -/
def pubL (zs : List Int) : List Int := encP (tms (wplus Ops.int bP) ⟨0, 1, 0⟩ (be zs) ⟨gXP, gYP, 1⟩ 256 ⟨0, 1, 0⟩)
def sumL (xs ys : List Int) : List Int := encP (wplus Ops.int bP (rdP xs) (rdP ys))
def mulB (zs xs : List Int) : List Int := encP (tms (wplus Ops.int bP) ⟨0, 1, 0⟩ (be zs) (rdP xs) 256 ⟨0, 1, 0⟩)
def fPublic (pub : List Int → List Int) : Spec := fun args H =>
  match args, H with
  | [.bsl 0 p off len], [.buf tb .u8 xs] =>
    some (.tuple [.bsl 1 0 0 (pub ((xs.drop off).take len)).length, .int .i64 0], [.buf tb .u8 xs, .buf 5 .u8 (pub ((xs.drop off).take len))],
      [.le (off + len) xs.length, .prop (isB xs), .prop (scOk ((xs.drop off).take len))])
  | _, _ => none
theorem okPublic (g : Nat) : Ok g 24 (fPublic pubL) := by
  intro args H r H' c h hc L w hs hg hok
  unfold fPublic at h
  split at h
  case h_2 => cases h
  rename_i p off len tb xs
  simp only [Option.some.injEq, Prod.mk.injEq] at h
  obtain ⟨rfl, rfl, rfl⟩ := h
  exact go (l14_ok g) noO 90 [] Tryd.func24 (by kernel_rfl) (by kernel_rfl)
    (cs := [.le (off + len) xs.length, .prop (isB xs), .prop (scOk ((xs.drop off).take len))]) (by kernel_rfl) (by kernel_rfl) hc (Alike.refl _) rfl hs hg hok
def fPlusB (sum : List Int → List Int → List Int) : Spec := fun args H =>
  match args, H with
  | [.bsl 0 p off len, .bsl 1 p' off' len'], [.buf tb .u8 xs, .buf tb' .u8 xs'] =>
    some (.tuple [.bsl 2 0 0 (sum ((xs.drop off).take len) ((xs'.drop off').take len')).length, .int .i64 0], [.buf tb .u8 xs, .buf tb' .u8 xs', .buf 5 .u8 (sum ((xs.drop off).take len) ((xs'.drop off').take len'))],
      [.le (off + len) xs.length, .prop (isB xs), .prop (rdOk bP ((xs.drop off).take len)), .le (off' + len') xs'.length, .prop (isB xs'), .prop (rdOk bP ((xs'.drop off').take len'))])
  | _, _ => none
theorem okPlusB (g : Nat) : Ok g 18 (fPlusB sumL) := by
  intro args H r H' c h hc L w hs hg hok
  unfold fPlusB at h
  split at h
  case h_2 => cases h
  rename_i p off len p' off' len' tb xs tb' xs'
  simp only [Option.some.injEq, Prod.mk.injEq] at h
  obtain ⟨rfl, rfl, rfl⟩ := h
  exact go (l14_ok g) noO 90 [] Tryd.func18 (by kernel_rfl) (by kernel_rfl)
    (cs := [.le (off + len) xs.length, .prop (isB xs), .prop (rdOk bP ((xs.drop off).take len)), .le (off' + len') xs'.length, .prop (isB xs'), .prop (rdOk bP ((xs'.drop off').take len'))]) (by kernel_rfl) (by kernel_rfl) hc (Alike.refl _) rfl hs hg hok
def fTimesB (mul : List Int → List Int → List Int) : Spec := fun args H =>
  match args, H with
  | [.bsl 0 p off len, .bsl 1 p' off' len'], [.buf tb .u8 xs, .buf tb' .u8 xs'] =>
    some (.tuple [.bsl 2 0 0 (mul ((xs.drop off).take len) ((xs'.drop off').take len')).length, .int .i64 0], [.buf tb .u8 xs, .buf tb' .u8 xs', .buf 5 .u8 (mul ((xs.drop off).take len) ((xs'.drop off').take len'))],
      [.prop (len = 32), .le (off + len) xs.length, .prop (isB xs), .le (off' + len') xs'.length, .prop (isB xs'), .prop (rdOk bP ((xs'.drop off').take len'))])
  | _, _ => none
theorem okTimesB (g : Nat) : Ok g 19 (fTimesB mulB) := by
  intro args H r H' c h hc L w hs hg hok
  unfold fTimesB at h
  split at h
  case h_2 => cases h
  rename_i p off len p' off' len' tb xs tb' xs'
  simp only [Option.some.injEq, Prod.mk.injEq] at h
  obtain ⟨rfl, rfl, rfl⟩ := h
  obtain ⟨h1, h2, h3, h4, h5, h6, _⟩ := hc
  have h1 : len = 32 := h1
  subst h1
  exact go (l14_ok g) ⟨[11], []⟩ 90 [false] Tryd.func19 (by kernel_rfl) (by kernel_rfl)
    (cs := [.tt ((((32 : Nat) : Int) != 32) == false), .le (off' + len') xs'.length, .prop (isB xs'), .prop (rdOk bP ((xs'.drop off').take len')), .le 32 32, .le (off + 32) xs.length, .prop (isB xs)]) (by kernel_rfl) (by kernel_rfl) ⟨rfl, h4, h5, h6, Nat.le_refl _, h2, h3, trivial⟩ (Alike.refl _) rfl hs hg hok
def fPoint : Spec := fun args H =>
  match args, H with
  | [.bsl 0 p off len], [.buf tb .u8 xs] => some (.bool true, [.buf tb .u8 xs], [.le (off + len) xs.length, .prop (isB xs), .prop (rdOk bP ((xs.drop off).take len))])
  | _, _ => none
theorem okPoint (g : Nat) : Ok g 17 fPoint := by
  intro args H r H' c h hc L w hs hg hok
  unfold fPoint at h
  split at h
  case h_2 => cases h
  rename_i p off len tb xs
  simp only [Option.some.injEq, Prod.mk.injEq] at h
  obtain ⟨rfl, rfl, rfl⟩ := h
  exact go (l14_ok g) noO 90 [] Tryd.func17 (by kernel_rfl) (by kernel_rfl)
    (cs := [.le (off + len) xs.length, .prop (isB xs), .prop (rdOk bP ((xs.drop off).take len))]) (by kernel_rfl) (by kernel_rfl) hc (Alike.refl _) rfl hs hg hok
/- A KEY -/
def z32 : List Int := [0, 0, 0, 0, 0, 0, 0, 0, 0, 0, 0, 0, 0, 0, 0, 0, 0, 0, 0, 0, 0, 0, 0, 0, 0, 0, 0, 0, 0, 0, 0, 0]
def rowK (l : List Int) : List Int := z32.take 1 ++ (l ++ z32.drop (1 + l.length))
def newK (s : List UInt8) : List Int := (bytesOf s).take (Nat.min s.length 31)
def keyL (s : List UInt8) : List Int := (rowK (newK s)).set 31 (bitsI .or .u8 ((rowK (newK s)).getD 31 0) 1)
theorem newK_len (s : List UInt8) : (newK s).length ≤ 31 := by
  simp only [newK, List.length_take]
  exact Nat.le_trans (Nat.min_le_left _ _) (Nat.min_le_right _ _)
theorem rowK_len (l : List Int) (h : l.length ≤ 31) : (rowK l).length = 32 := by
  simp only [rowK, List.length_append, List.length_take, List.length_drop]
  show min 1 32 + (l.length + (32 - (1 + l.length))) = 32
  omega
theorem keyL_len (s : List UInt8) : (keyL s).length = 32 := by
  rw [keyL, List.length_set]
  exact rowK_len _ (newK_len s)
def fKey : Spec := fun args H =>
  match args, H with
  | [.str s], [] => some (.bsl 0 0 0 32, [.buf 5 .u8 (keyL s)], [])
  | _, _ => none
theorem okKey (g : Nat) : Ok g 29 fKey := by
  intro args H r H' c h hc L w hs hg hok
  unfold fKey at h
  split at h
  case h_2 => cases h
  rename_i s
  simp only [Option.some.injEq, Prod.mk.injEq] at h
  obtain ⟨rfl, rfl, rfl⟩ := h
  have hl := newK_len s
  have hr := rowK_len _ hl
  refine go (l14_ok g) ⟨[], [1, 2, 3, 4]⟩ 90 [] Tryd.func29 (by kernel_rfl) (by kernel_rfl)
    (cs := [.ile 0 32, .ile 32 32, .ile 32 1099511627776, .le 32 32, .ile 0 1, .le 1 32, .le (newK s).length 31, .le 32 32, .ile 0 31, .ilt 31 32, .le 32 (rowK (newK s)).length, .lt 31 (rowK (newK s)).length, .ile 0 31, .ilt 31 32, .le 32 (rowK (newK s)).length, .lt 31 (rowK (newK s)).length]) (by kernel_rfl) (by kernel_rfl) ?_ (Alike.refl _) rfl hs hg hok
  have e : (32 : Nat) ≤ (rowK (newK s)).length := by rw [hr]; decide
  have e2 : (31 : Nat) < (rowK (newK s)).length := by rw [hr]; decide
  refine ⟨?_, ?_, ?_, Nat.le_refl _, ?_, ?_, hl, Nat.le_refl _, ?_, ?_, e, e2, ?_, ?_, e, e2, trivial⟩ <;> first | (show (_ : Int) ≤ _; decide) | (show (_ : Int) < _; decide) | (show (_ : Nat) ≤ _; decide)
end Go.Am.Sl
namespace Go.Am.Sl
open Go.Am Kr Gp Fe
/- WHAT THE FUNCTIONS OF nist RECKON: sums and multiples of points -/
theorem pk2 : Pk 2 = p256 := rfl
theorem pk3 : Pk 3 = q256 := rfl
theorem rf_iff {x : Int} {a : Fin p256} : Rf p256 x a ↔ (p256 : Int) ∣ x - (a.val : Int) := Iff.rfl
theorem rf_val (a : Fin p256) : Rf p256 (a.val : Int) a := ⟨0, by simp⟩
theorem rf_nat {n : Nat} (h : n < p256) : Rf p256 (n : Int) ⟨n, h⟩ := rf_val ⟨n, h⟩
theorem rf_mod {x : Int} {a : Fin p256} (h : Rf p256 x a) : x % (p256 : Nat) = (a.val : Int) := by
  have h1 := Int.emod_emod_of_dvd
  have h2 : (x - (a.val : Int)) % (p256 : Int) = 0 := Int.emod_eq_zero_of_dvd h
  have h3 : x % (p256 : Int) = (a.val : Int) % (p256 : Int) := Int.emod_eq_emod_iff_emod_sub_eq_zero.2 h2
  have h4 : (a.val : Int) % (p256 : Int) = (a.val : Int) := Int.emod_eq_of_lt (Int.natCast_nonneg _) (by have := a.isLt; omega)
  exact h3.trans h4
theorem rf_toNat {x : Int} {a : Fin p256} (h : Rf p256 x a) : (x % (Pk 2 : Nat)).toNat = a.val := by
  rw [pk2, rf_mod h]
  rfl
theorem rf_same {x : Int} {a b : Fin p256} (h : Rf p256 x a) (h' : Rf p256 x b) : a = b := by
  have h1 := rf_mod h
  have h2 := rf_mod h'
  apply Fin.ext
  omega
theorem rf_feq {x : Int} {a : Fin p256} (h : Rf p256 x a) : feq 2 x 0 = decide (a = 0) := by
  unfold feq
  rw [pk2]
  apply decide_eq_decide.2
  rw [Int.sub_zero, rf_mod h]
  constructor
  · intro h0
    apply Fin.ext
    have : a.val = 0 := by omega
    rw [this]
    rfl
  · rintro rfl
    rfl
theorem rf_feq2 {x y : Int} {a b : Fin p256} (h : Rf p256 x a) (h' : Rf p256 y b) (e : a = b) : feq 2 x y = true := by
  subst e
  unfold feq
  rw [pk2]
  apply decide_eq_true
  have h1 := rf_mod h
  have h2 := rf_mod h'
  exact Int.emod_eq_emod_iff_emod_sub_eq_zero.1 (h1.trans h2.symm)
theorem rf_mul {x y : Int} {a b : Fin p256} (h : Rf p256 x a) (h' : Rf p256 y b) : Rf p256 (x * y) (a * b) := (int_fin p256).mul h h'
theorem rf_add {x y : Int} {a b : Fin p256} (h : Rf p256 x a) (h' : Rf p256 y b) : Rf p256 (x + y) (a + b) := (int_fin p256).add h h'
theorem rf_sub {x y : Int} {a b : Fin p256} (h : Rf p256 x a) (h' : Rf p256 y b) : Rf p256 (x - y) (a - b) := (int_fin p256).sub h h'
theorem rf_one : Rf p256 1 1 := by
  have := rf_val 1
  exact this
theorem rf_zero : Rf p256 0 0 := by
  have := rf_val 0
  exact this
theorem rf_pow {x : Int} {a : Fin p256} (h : Rf p256 x a) : ∀ n, Rf p256 (x ^ n) (pw a n)
  | 0 => by rw [Int.pow_zero]; exact rf_one
  | n + 1 => by rw [Int.pow_succ]; exact rf_mul (rf_pow h n) h
theorem affI_rf {x z : Int} {a c : Fin p256} (hx : Rf p256 x a) (hz : Rf p256 z c) : affI x z = (a * fiv c).val := by
  unfold affI powI
  have h := rf_toNat (rf_mul hx (rf_pow hz (p256 - 2)))
  rw [pk2] at h ⊢
  exact h
/-- a point in bytes -/
def encA : Pt → List Int
  | none => [0]
  | some a => 4 :: (toB 32 a.1.val ++ toB 32 a.2.val)
abbrev PR := P3R (Rf p256)
theorem encP_rep {P : P3 Int} {Q : P3 (Fin p256)} (h : PR P Q) {A : Pt} (hA : Rep Q A) : encP P = encA A := by
  unfold encP
  rw [rf_feq h.z]
  cases A with
  | none =>
    rw [decide_eq_true hA.2.1]
    rfl
  | some a =>
    obtain ⟨h1, h2, h3⟩ := hA
    rw [decide_eq_false h1, affI_rf h.x h.z, affI_rf h.y h.z, h2, h3]
    have e : ∀ u : Fin p256, u * Q.z * fiv Q.z = u := by
      intro u
      have := fld_p256.inv Q.z h1
      grind
    rw [e, e]
    rfl
theorem toB_succ (w n : Nat) : toB (w + 1) n = toB w (n / 256) ++ [((n % 256 : Nat) : Int)] := by
  unfold toB
  rw [List.range_succ, List.map_append]
  congr 1
  · apply List.map_congr_left
    intro i hi
    have hi := List.mem_range.1 hi
    rw [Nat.div_div_eq_div_mul]
    have : w + 1 - 1 - i = (w - 1 - i) + 1 := by omega
    rw [this, Nat.pow_succ, Nat.mul_comm]
  · simp
theorem be_toB : ∀ (w n : Nat), be (toB w n) = n % 256 ^ w
  | 0, n => by simp [toB, be, Nat.mod_one]
  | w + 1, n => by
    rw [toB_succ, be_snoc, be_toB w, Nat.pow_succ]
    have : ((n % 256 : Nat) : Int).toNat = n % 256 := rfl
    rw [this, Nat.mul_comm (256 ^ w), Nat.mod_mul]
    omega
theorem isB_toB : ∀ (w n : Nat), isB (toB w n)
  | 0, n => by intro x hx; cases hx
  | w + 1, n => by
    intro x hx
    rw [toB_succ] at hx
    rcases List.mem_append.1 hx with h | h
    · exact isB_toB w _ x h
    · simp only [List.mem_singleton] at h
      subst h
      have := Nat.mod_lt n (show 0 < 256 by decide)
      omega
theorem toB_len (w n : Nat) : (toB w n).length = w := by simp [toB]
theorem isB_encA (A : Pt) : isB (encA A) := by
  cases A with
  | none => intro x hx; simp only [encA, List.mem_singleton] at hx; subst hx; decide
  | some a =>
    intro x hx
    simp only [encA, List.mem_cons, List.mem_append] at hx
    rcases hx with rfl | h | h
    · decide
    · exact isB_toB _ _ x h
    · exact isB_toB _ _ x h
theorem be_val (a : Fin p256) : be (toB 32 a.val) = a.val := by
  rw [be_toB]
  exact Nat.mod_eq_of_lt (Nat.lt_trans a.isLt (by decide +kernel))
theorem enc_x (a : Fin p256 × Fin p256) : ((encA (some a)).drop 1).take 32 = toB 32 a.1.val := by
  show (toB 32 a.1.val ++ toB 32 a.2.val).take 32 = _
  exact List.take_left' (toB_len _ _)
theorem enc_y (a : Fin p256 × Fin p256) : (encA (some a)).drop 33 = toB 32 a.2.val := by
  show (toB 32 a.1.val ++ toB 32 a.2.val).drop 32 = _
  exact List.drop_left' (toB_len _ _)
theorem enc_len (a : Fin p256 × Fin p256) : (encA (some a)).length = 65 := by
  simp [encA, toB_len]
theorem rdOk_enc {A : Pt} (hA : Pon A) : rdOk bP (encA A) := by
  cases A with
  | none => exact .inl ⟨rfl, rfl⟩
  | some a =>
    refine .inr ⟨enc_len a, rfl, ?_, ?_, ?_⟩
    · rw [enc_x, be_val]; exact a.1.isLt
    · rw [enc_y, be_val]; exact a.2.isLt
    · rw [enc_x, enc_y, be_val, be_val]
      have hx := rf_val a.1
      have hy := rf_val a.2
      have h3 : Rf p256 3 3 := rf_val 3
      have hb : Rf p256 bP b256 := rf_val b256
      refine rf_feq2 (rf_mul hy hy) (rf_add (rf_mul hx (rf_sub (rf_mul hx hx) h3)) hb) ?_
      have h : a.2 * a.2 = a.1 * (a.1 * a.1) - (a.1 + a.1 + a.1) + b256 := hA
      rw [h]
      grind
theorem rdP_enc (A : Pt) : PR (rdP (encA A)) (pj A) := by
  cases A with
  | none => exact ⟨rf_zero, rf_one, rf_zero⟩
  | some a =>
    unfold rdP
    rw [if_neg (by rw [enc_len]; decide), enc_x, enc_y, be_val, be_val]
    exact ⟨rf_val a.1, rf_val a.2, rf_one⟩
theorem rep_self {A : Pt} : Rep (pj A) A := rep_pj fld_p256 b256 two_p256 noroot
theorem sum_good {P P' : P3 Int} {Q Q' : P3 (Fin p256)} (h : PR P Q) (h' : PR P' Q') : PR (wplus Ops.int bP P P') (jadd Q Q') :=
  wplus_good (int_fin p256) (rf_val b256) h h'
theorem tms_good (n : Nat) {P : P3 Int} {Q : P3 (Fin p256)} (h : PR P Q) : ∀ (i : Nat) (O : P3 Int) (O' : P3 (Fin p256)), PR O O' → PR (tms (wplus Ops.int bP) ⟨0, 1, 0⟩ n P i O) (tms jadd pO n Q i O')
  | 0, O, O', hO => hO
  | i + 1, O, O', hO => by
    simp only [tms]
    split
    · exact tms_good n h i _ _ (sum_good (sum_good hO hO) h)
    · exact tms_good n h i _ _ (sum_good hO hO)
theorem o_good : PR ⟨0, 1, 0⟩ pO := ⟨rf_zero, rf_one, rf_zero⟩
theorem g_good : PR ⟨gXP, gYP, 1⟩ (pj pG) := ⟨rf_val gx256, rf_val gy256, rf_one⟩
theorem sum_law {A B : Pt} (hA : Pon A) (hB : Pon B) : sumL (encA A) (encA B) = encA (padd A B) :=
  encP_rep (sum_good (rdP_enc A) (rdP_enc B)) (jadd_rep hA hB rep_self rep_self)
theorem pub_law {zs : List Int} (h : be zs < 2 ^ 256) : pubL zs = encA (ml padd none (be zs) pG) :=
  encP_rep (tms_good (be zs) g_good 256 _ _ o_good) (times_rep h pG_on rep_self)
theorem times_law {zs : List Int} (h : be zs < 2 ^ 256) {A : Pt} (hA : Pon A) : mulB zs (encA A) = encA (ml padd none (be zs) A) :=
  encP_rep (tms_good (be zs) (rdP_enc A) 256 _ _ o_good) (times_rep h hA rep_self)
end Go.Am.Sl
