/- Part of the proof: MathC. -/
import Derived.Test.YtmcgmfjmjpbgaaaDoorMathA
import Derived.Test.YtmcgmfjmjpbgaaaDoorMathB
set_option linter.unusedVariables false
set_option linter.unusedSectionVars false
set_option maxRecDepth 100000
namespace Kr
open Gp
/- THE CURVE -x x + y y = 1 + d x x y y, as u u = (y y - 1) (d y y + 1), u = x (d y y + 1) -/
def fE : Fm := fun {_} O one d y => O.mul (O.sub (O.mul y y) one) (O.add (O.mul d (O.mul y y)) one)
theorem fE_good : fE.Good := fun _ _ _ h => fun ho hd hy => h.mul (h.sub (h.mul hy hy) ho) (h.add (h.mul hd (h.mul hy hy)) ho)
structure P4 (α : Type) where
  x : α
  y : α
  z : α
  t : α
section
variable {α : Type} (O : Ops α)
def eplus (d : α) (p q : P4 α) : P4 α :=
  let a := O.mul (O.sub p.y p.x) (O.sub q.y q.x)
  let b := O.mul (O.add p.y p.x) (O.add q.y q.x)
  let t := O.mul (O.mul p.t q.t) d
  let z := O.mul p.z q.z
  let t2 := O.add t t
  let z2 := O.add z z
  let e := O.sub b a
  let f := O.sub z2 t2
  let g := O.add z2 t2
  let h := O.add b a
  ⟨O.mul e f, O.mul g h, O.mul f g, O.mul e h⟩
def ept (one d y u : α) : P4 α := ⟨u, O.mul y (O.add (O.mul d (O.mul y y)) one), O.add (O.mul d (O.mul y y)) one, O.mul u y⟩
def sqr (a : α) : α := O.mul a a
def eon (d : α) (p : P4 α) : α := O.sub (O.mul (O.sub (sqr O p.y) (sqr O p.x)) (sqr O p.z)) (O.add (sqr O (sqr O p.z)) (O.mul d (O.mul (sqr O p.x) (sqr O p.y))))
end
structure P4R {α β : Type} (R : α → β → Prop) (p : P4 α) (q : P4 β) : Prop where
  x : R p.x q.x
  y : R p.y q.y
  z : R p.z q.z
  t : R p.t q.t
section
variable {α β : Type} {O : Ops α} {O' : Ops β} {R : α → β → Prop} (h : Resp O O' R)
include h
theorem eplus_good {d d' p p' q q'} (hd : R d d') (hp : P4R R p p') (hq : P4R R q q') : P4R R (eplus O d p q) (eplus O' d' p' q') := by
  have a := h.mul (h.sub hp.y hp.x) (h.sub hq.y hq.x)
  have b := h.mul (h.add hp.y hp.x) (h.add hq.y hq.x)
  have t := h.mul (h.mul hp.t hq.t) hd
  have z := h.mul hp.z hq.z
  have t2 := h.add t t
  have z2 := h.add z z
  have e := h.sub b a
  have f := h.sub z2 t2
  have g := h.add z2 t2
  have k := h.add b a
  exact ⟨h.mul e f, h.mul g k, h.mul f g, h.mul e k⟩
theorem ept_good {o o' d d' y y' u u'} (ho : R o o') (hd : R d d') (hy : R y y') (hu : R u u') : P4R R (ept O o d y u) (ept O' o' d' y' u') :=
  ⟨hu, h.mul hy (h.add (h.mul hd (h.mul hy hy)) ho), h.add (h.mul hd (h.mul hy hy)) ho, h.mul hu hy⟩
theorem sqr_good {a a'} (ha : R a a') : R (sqr O a) (sqr O' a') := h.mul ha ha
theorem eon_good {d d' p p'} (hd : R d d') (hp : P4R R p p') : R (eon O d p) (eon O' d' p') :=
  h.sub (h.mul (h.sub (sqr_good h hp.y) (sqr_good h hp.x)) (sqr_good h hp.z)) (h.add (sqr_good h (sqr_good h hp.z)) (h.mul hd (h.mul (sqr_good h hp.x) (sqr_good h hp.y))))
end
section
variable {α : Type} (O : Ops α) (I : Ins α)
def ep : P4 α := ept O I.one I.c I.x1 I.y1
def eq_ : P4 α := ept O I.one I.c I.x2 I.y2
def er : P4 α := ept O I.one I.c I.x3 I.y3
def el : P4 α := eplus O I.c (eplus O I.c (ep O I) (eq_ O I)) (er O I)
def em : P4 α := eplus O I.c (ep O I) (eplus O I.c (eq_ O I) (er O I))
end
def hXZ : Gm := fun {_} O I => O.sub (O.mul (el O I).x (em O I).z) (O.mul (em O I).x (el O I).z)
def hYZ : Gm := fun {_} O I => O.sub (O.mul (el O I).y (em O I).z) (O.mul (em O I).y (el O I).z)
def hON : Gm := fun {_} O I => eon O I.c (eplus O I.c (ep O I) (eq_ O I))
section
variable {α β : Type} {O : Ops α} {O' : Ops β} {R : α → β → Prop} (h : Resp O O' R) {I : Ins α} {J : Ins β} (hi : InsR R I J)
include h hi
theorem ep_good : P4R R (ep O I) (ep O' J) := ept_good h hi.one hi.c hi.x1 hi.y1
theorem eq_good : P4R R (eq_ O I) (eq_ O' J) := ept_good h hi.one hi.c hi.x2 hi.y2
theorem er_good : P4R R (er O I) (er O' J) := ept_good h hi.one hi.c hi.x3 hi.y3
theorem el_good : P4R R (el O I) (el O' J) := eplus_good h hi.c (eplus_good h hi.c (ep_good h hi) (eq_good h hi)) (er_good h hi)
theorem em_good : P4R R (em O I) (em O' J) := eplus_good h hi.c (ep_good h hi) (eplus_good h hi.c (eq_good h hi) (er_good h hi))
end
theorem hXZ_good : hXZ.Good := fun O O' R h _ _ hi => h.sub (h.mul (el_good h hi).x (em_good h hi).z) (h.mul (em_good h hi).x (el_good h hi).z)
theorem hYZ_good : hYZ.Good := fun O O' R h _ _ hi => h.sub (h.mul (el_good h hi).y (em_good h hi).z) (h.mul (em_good h hi).y (el_good h hi).z)
theorem hON_good : hON.Good := fun O O' R h _ _ hi => eon_good h hi.c (eplus_good h hi.c (ep_good h hi) (eq_good h hi))
def EB : Bd := ⟨2 ^ 48 - 1, 21, 24, 24, 17⟩
theorem EB_n : EB.n < 2 ^ 48 := by decide
theorem bdhXZ : T3.all (fun a => a.le EB) (hXZ (bdBase.O3 fE) bdBase.ins) = true := by decide +kernel
theorem bdhYZ : T3.all (fun a => a.le EB) (hYZ (bdBase.O3 fE) bdBase.ins) = true := by decide +kernel
theorem bdhON : T3.all (fun a => a.le EB) (hON (bdBase.O3 fE) bdBase.ins) = true := by decide +kernel
theorem pthON : T3.all (fun z => z == 0) (hON ((pointBase 48 EB).O3 fE) (pointBase 48 EB).ins) = true := by decide +kernel
theorem pthXZ : T3.all (fun z => z == 0) (hXZ ((pointBase 48 EB).O3 fE) (pointBase 48 EB).ins) = true := by decide +kernel
theorem pthYZ : T3.all (fun z => z == 0) (hYZ ((pointBase 48 EB).O3 fE) (pointBase 48 EB).ins) = true := by decide +kernel
section
variable {p : Nat} [NeZero p] {d y1 u1 y2 u2 y3 u3 : Fin p} (h1 : u1 * u1 = fE (Ops.fin p) 1 d y1) (h2 : u2 * u2 = fE (Ops.fin p) 1 d y2) (h3 : u3 * u3 = fE (Ops.fin p) 1 d y3)
include h1 h2
theorem idhON : hON (Ops.fin p) ⟨0, 1, d, y1, u1, y2, u2, y2, u2⟩ = 0 := tower_fin fE fE_good hON hON_good 48 EB EB_n bdhON pthON d y1 u1 y2 u2 y2 u2 h1 h2 h2
include h3
theorem idhXZ : hXZ (Ops.fin p) ⟨0, 1, d, y1, u1, y2, u2, y3, u3⟩ = 0 := tower_fin fE fE_good hXZ hXZ_good 48 EB EB_n bdhXZ pthXZ d y1 u1 y2 u2 y3 u3 h1 h2 h3
theorem idhYZ : hYZ (Ops.fin p) ⟨0, 1, d, y1, u1, y2, u2, y3, u3⟩ = 0 := tower_fin fE fE_good hYZ hYZ_good 48 EB EB_n bdhYZ pthYZ d y1 u1 y2 u2 y3 u3 h1 h2 h3
end
end Kr
namespace Kr
open Gp
section
variable {p : Nat} [NeZero p]
/-- the points -/
def eonc (d : Fin p) (a : Fin p × Fin p) : Prop := a.2 * a.2 - a.1 * a.1 = 1 + d * (a.1 * a.1) * (a.2 * a.2)
structure ERep (P : P4 (Fin p)) (a : Fin p × Fin p) : Prop where
  z : P.z ≠ 0
  x : P.x = a.1 * P.z
  y : P.y = a.2 * P.z
  t : P.t = a.1 * a.2 * P.z
/-- THE SUM -/
def radd (iv : Fin p → Fin p) (d : Fin p) (a b : Fin p × Fin p) : Fin p × Fin p :=
  ((a.1 * b.2 + b.1 * a.2) * iv (1 + d * ((a.1 * b.1) * (a.2 * b.2))), (a.2 * b.2 + a.1 * b.1) * iv (1 - d * ((a.1 * b.1) * (a.2 * b.2))))
def epj (a : Fin p × Fin p) : P4 (Fin p) := ⟨a.1, a.2, 1, a.1 * a.2⟩
def esc (k : Fin p) (P : P4 (Fin p)) : P4 (Fin p) := ⟨k * P.x, k * P.y, k * P.z, k * P.t⟩
theorem eplus_sc (d k m : Fin p) (P Q : P4 (Fin p)) : eplus (Ops.fin p) d (esc k P) (esc m Q) = esc (k * m * (k * m)) (eplus (Ops.fin p) d P Q) := by
  simp only [eplus, Ops.fin, P4.mk.injEq, esc]
  refine ⟨?_, ?_, ?_, ?_⟩ <;> grobner
theorem eplus_comm (d : Fin p) (P Q : P4 (Fin p)) : eplus (Ops.fin p) d P Q = eplus (Ops.fin p) d Q P := by
  simp only [eplus, Ops.fin, P4.mk.injEq]
  refine ⟨?_, ?_, ?_, ?_⟩ <;> grobner
theorem esc_esc (k m : Fin p) (P : P4 (Fin p)) : esc k (esc m P) = esc (k * m) P := by
  simp only [esc, P4.mk.injEq]
  refine ⟨?_, ?_, ?_, ?_⟩ <;> grobner
end
section
variable {p : Nat} [NeZero p] {iv : Fin p → Fin p} (F : Fld p iv) {d i : Fin p} (h2 : (1 : Fin p) + 1 ≠ 0) (hi : i * i = 0 - 1) (hd : ∀ s : Fin p, s * s ≠ d)
include F h2 hi hd
theorem not_sq {m n : Fin p} (hn : n ≠ 0) (h : m * m = d * (n * n)) : False := by
  refine hd (m * iv n) ?_
  have := F.inv n hn
  generalize iv n = k at *
  grobner
/-- the denominators are not 0 -/
theorem den_ne {a b : Fin p × Fin p} (ha : eonc d a) (hb : eonc d b) {e : Fin p} (he : e * e = 1) : d * ((a.1 * b.1) * (a.2 * b.2)) ≠ e := by
  obtain ⟨x1, y1⟩ := a
  obtain ⟨x2, y2⟩ := b
  simp only [eonc] at *
  intro hk
  have hx : x1 * y1 ≠ 0 := by
    intro h0
    refine F.one ?_
    rw [← he, ← hk]
    grobner
  have hy2 : y2 ≠ 0 := by
    rintro rfl
    refine F.one ?_
    rw [← he, ← hk]
    grobner
  by_cases hp : i * x2 + y2 = 0
  · by_cases hm : i * x2 - y2 = 0
    · refine F.mul_ne h2 hy2 ?_
      grobner
    · refine not_sq F h2 hi hd (m := i * x1 - e * y1) (n := x1 * y1 * (i * x2 - y2)) (F.mul_ne hx hm) ?_
      grobner
  · refine not_sq F h2 hi hd (m := i * x1 + e * y1) (n := x1 * y1 * (i * x2 + y2)) (F.mul_ne hx hp) ?_
    grobner
theorem den1 {a b : Fin p × Fin p} (ha : eonc d a) (hb : eonc d b) : 1 + d * ((a.1 * b.1) * (a.2 * b.2)) ≠ 0 := fun h =>
  den_ne F h2 hi hd ha hb (e := 0 - 1) (by grobner) (by grobner)
theorem den2 {a b : Fin p × Fin p} (ha : eonc d a) (hb : eonc d b) : 1 - d * ((a.1 * b.1) * (a.2 * b.2)) ≠ 0 := fun h =>
  den_ne F h2 hi hd ha hb (e := 1) (by grobner) (by grobner)
theorem dz_ne (y : Fin p) : d * (y * y) + 1 ≠ 0 := by
  intro h
  by_cases hy : y = 0
  · subst hy
    exact F.one (by grobner)
  · exact not_sq F h2 hi hd (m := i) (n := y) hy (by grobner)
theorem erep_pj (a : Fin p × Fin p) : ERep (epj a) a := ⟨F.one, by simp only [epj]; grobner, by simp only [epj]; grobner, by simp only [epj]; grobner⟩
theorem erep_sc {P : P4 (Fin p)} {a : Fin p × Fin p} (h : ERep P a) : ∃ k, k ≠ 0 ∧ P = esc k (epj a) := by
  obtain ⟨X, Y, Z, T⟩ := P
  obtain ⟨hz, hx, hy, ht⟩ := h
  refine ⟨Z, hz, ?_⟩
  simp only [esc, epj, P4.mk.injEq] at *
  refine ⟨?_, ?_, ?_, ?_⟩ <;> grobner
theorem esc_rep {P : P4 (Fin p)} {a : Fin p × Fin p} {k : Fin p} (hk : k ≠ 0) (h : ERep P a) : ERep (esc k P) a := by
  obtain ⟨X, Y, Z, T⟩ := P
  obtain ⟨hz, hx, hy, ht⟩ := h
  simp only at *
  refine ⟨F.mul_ne hk hz, ?_, ?_, ?_⟩ <;> simp only [esc] <;> grobner
/-- ONE FORMULA FOR ALL SUMS -/
theorem eplus_rep {P Q : P4 (Fin p)} {a b : Fin p × Fin p} (ha : eonc d a) (hb : eonc d b) (hP : ERep P a) (hQ : ERep Q b) : ERep (eplus (Ops.fin p) d P Q) (radd iv d a b) := by
  obtain ⟨k, hk, rfl⟩ := erep_sc F h2 hi hd hP
  obtain ⟨m, hm, rfl⟩ := erep_sc F h2 hi hd hQ
  rw [eplus_sc]
  refine esc_rep F h2 hi hd (F.mul_ne (F.mul_ne hk hm) (F.mul_ne hk hm)) ?_
  have e1 := den1 F h2 hi hd ha hb
  have e2 := den2 F h2 hi hd ha hb
  have v1 := F.inv _ e1
  have v2 := F.inv _ e2
  obtain ⟨x1, y1⟩ := a
  obtain ⟨x2, y2⟩ := b
  simp only [radd] at *
  clear ha hb hP hQ
  generalize hD1 : 1 + d * (x1 * x2 * (y1 * y2)) = D1 at *
  generalize hD2 : 1 - d * (x1 * x2 * (y1 * y2)) = D2 at *
  generalize iv D1 = j1 at *
  generalize iv D2 = j2 at *
  have hz : (eplus (Ops.fin p) d (epj (x1, y1)) (epj (x2, y2))).z = (1 + 1) * D2 * ((1 + 1) * D1) := by
    simp only [eplus, Ops.fin, epj]
    grobner
  have hx : (eplus (Ops.fin p) d (epj (x1, y1)) (epj (x2, y2))).x = (1 + 1) * (x1 * y2 + x2 * y1) * ((1 + 1) * D2) := by
    simp only [eplus, Ops.fin, epj]
    grobner
  have hy : (eplus (Ops.fin p) d (epj (x1, y1)) (epj (x2, y2))).y = (1 + 1) * (y1 * y2 + x1 * x2) * ((1 + 1) * D1) := by
    simp only [eplus, Ops.fin, epj]
    grobner
  have ht : (eplus (Ops.fin p) d (epj (x1, y1)) (epj (x2, y2))).t = (1 + 1) * (x1 * y2 + x2 * y1) * ((1 + 1) * (y1 * y2 + x1 * x2)) := by
    simp only [eplus, Ops.fin, epj]
    grobner
  refine ⟨?_, ?_, ?_, ?_⟩
  · rw [hz]
    exact F.mul_ne (F.mul_ne h2 e2) (F.mul_ne h2 e1)
  · rw [hx, hz]
    grobner
  · rw [hy, hz]
    grobner
  · rw [ht, hz]
    grobner
theorem erep_one {P Q : P4 (Fin p)} {a b : Fin p × Fin p} (hP : ERep P a) (hQ : ERep Q b) (h1 : P.x * Q.z = Q.x * P.z) (h2' : P.y * Q.z = Q.y * P.z) : a = b := by
  have hzz := F.mul_ne hP.z hQ.z
  have e1 : a.1 = b.1 := F.cancel hzz (by rw [hP.x, hQ.x] at h1; grobner)
  have e2 : a.2 = b.2 := F.cancel hzz (by rw [hP.y, hQ.y] at h2'; grobner)
  exact Prod.ext e1 e2
/-- the root form of a point -/
theorem ept_rep (a : Fin p × Fin p) : ERep (ept (Ops.fin p) 1 d a.2 (a.1 * (d * (a.2 * a.2) + 1))) a := by
  refine ⟨dz_ne F h2 hi hd a.2, ?_, ?_, ?_⟩ <;> simp only [ept, Ops.fin] <;> grobner
theorem ept_root {a : Fin p × Fin p} (ha : eonc d a) : (a.1 * (d * (a.2 * a.2) + 1)) * (a.1 * (d * (a.2 * a.2) + 1)) = fE (Ops.fin p) 1 d a.2 := by
  obtain ⟨x, y⟩ := a
  simp only [eonc] at ha
  show _ = (y * y - 1) * (d * (y * y) + 1)
  grobner
theorem eon_rep {P : P4 (Fin p)} {a : Fin p × Fin p} (h : ERep P a) (hz : eon (Ops.fin p) d P = 0) : eonc d a := by
  obtain ⟨X, Y, Z, T⟩ := P
  obtain ⟨x, y⟩ := a
  obtain ⟨hZ, hx, hy, ht⟩ := h
  simp only at *
  have hz : (Y * Y - X * X) * (Z * Z) - (Z * Z * (Z * Z) + d * (X * X * (Y * Y))) = 0 := hz
  simp only [eonc]
  have := F.inv Z hZ
  generalize iv Z = k at *
  subst hx hy
  have e : (y * y - x * x - (1 + d * (x * x) * (y * y))) * (Z * Z * (Z * Z)) = 0 := by grobner
  have e2 : y * y - x * x - (1 + d * (x * x) * (y * y)) = 0 := by
    rcases F.dom _ _ e with h | h
    · exact h
    · exact absurd h (F.mul_ne (F.mul_ne hZ hZ) (F.mul_ne hZ hZ))
  grobner
theorem radd_on {a b : Fin p × Fin p} (ha : eonc d a) (hb : eonc d b) : eonc d (radd iv d a b) :=
  eon_rep F h2 hi hd (eplus_rep F h2 hi hd ha hb (ept_rep F h2 hi hd a) (ept_rep F h2 hi hd b)) (idhON (ept_root F h2 hi hd ha) (ept_root F h2 hi hd hb))
theorem radd_assoc {a b c : Fin p × Fin p} (ha : eonc d a) (hb : eonc d b) (hc : eonc d c) : radd iv d (radd iv d a b) c = radd iv d a (radd iv d b c) := by
  have ra := ept_rep F h2 hi hd a
  have rb := ept_rep F h2 hi hd b
  have rc := ept_rep F h2 hi hd c
  have l := eplus_rep F h2 hi hd (radd_on F h2 hi hd ha hb) hc (eplus_rep F h2 hi hd ha hb ra rb) rc
  have r := eplus_rep F h2 hi hd ha (radd_on F h2 hi hd hb hc) ra (eplus_rep F h2 hi hd hb hc rb rc)
  have xz := idhXZ (ept_root F h2 hi hd ha) (ept_root F h2 hi hd hb) (ept_root F h2 hi hd hc)
  have yz := idhYZ (ept_root F h2 hi hd ha) (ept_root F h2 hi hd hb) (ept_root F h2 hi hd hc)
  have s0 : ∀ {a b : Fin p}, a - b = 0 → a = b := fun {a b} h => by grobner
  exact erep_one F h2 hi hd l r (s0 xz) (s0 yz)
omit F h2 hi hd in
theorem radd_comm (a b : Fin p × Fin p) : radd iv d a b = radd iv d b a := by
  obtain ⟨x1, y1⟩ := a
  obtain ⟨x2, y2⟩ := b
  simp only [radd]
  rw [show x1 * y2 + x2 * y1 = x2 * y1 + x1 * y2 by grobner, show x1 * x2 * (y1 * y2) = x2 * x1 * (y2 * y1) by grobner, show y1 * y2 + x1 * x2 = y2 * y1 + x2 * x1 by grobner]
theorem radd_idl (a : Fin p × Fin p) : radd iv d (0, 1) a = a := by
  obtain ⟨x, y⟩ := a
  have v := F.inv 1 F.one
  have : iv 1 = 1 := by grobner
  simp only [radd]
  rw [show 1 + d * (0 * x * (1 * y)) = 1 by grobner, show 1 - d * (0 * x * (1 * y)) = 1 by grobner, this]
  exact Prod.ext (by show _ = x; grobner) (by show _ = y; grobner)
theorem radd_neg {a : Fin p × Fin p} (ha : eonc d a) : radd iv d a (0 - a.1, a.2) = (0, 1) := by
  have hn : eonc d (0 - a.1, a.2) := by simp only [eonc] at *; grobner
  have e2 := F.inv _ (den2 F h2 hi hd ha hn)
  obtain ⟨x, y⟩ := a
  simp only [radd, eonc] at *
  refine Prod.ext ?_ ?_
  · show _ = (0 : Fin p)
    generalize iv (1 + d * (x * (0 - x) * (y * y))) = k
    grobner
  · show _ = (1 : Fin p)
    generalize iv (1 - d * (x * (0 - x) * (y * y))) = k at *
    grobner
theorem eag : AG (eonc d) (radd iv d) (0, 1) (fun a => (0 - a.1, a.2)) where
  e_in := by simp only [eonc]; grobner
  op_in := radd_on F h2 hi hd
  ng_in := fun {a} ha => by simp only [eonc] at *; grobner
  idl a _ := radd_idl F h2 hi hd a
  comm _ _ := radd_comm _ _
  assoc := radd_assoc F h2 hi hd
  inv := radd_neg F h2 hi hd
end
end Kr
/- THE CURVE OF SIGNATURES modulo 2^255 - 19 -/
namespace Kr
open Fe Gp
def p25 : Nat := 57896044618658097711785492504343953926634992332820282019728792003956564819949
instance ip25 : NeZero p25 := ⟨by decide⟩
theorem gen_p25 : Gen p25 ⟨2, by decide⟩ p25519Fs := (gen_of p25 2 255 p25519Fs p25519_ok p25519_pr).2
theorem fld_p25 : Fld p25 fiv := fld_of gen_p25
theorem two_p25 : (1 : Fin p25) + 1 ≠ 0 := by decide +kernel
def d25 : Fin p25 := ⟨37095705934669439343138083508754565189542113879843219016388785533085940283555, by decide⟩
def i25 : Fin p25 := ⟨19681161376707505956807079304988542015446066515923890162744021073123829784752, by decide⟩
def bx25 : Fin p25 := ⟨15112221349535400772501151409588531511454012693041857206046113283949847762202, by decide⟩
def by25 : Fin p25 := ⟨46316835694926478169428394003475163141307993866256225615783033603165251855960, by decide⟩
theorem i25_sq : i25 * i25 = 0 - 1 := by decide +kernel
def hf25 : Nat := 28948022309329048855892746252171976963317496166410141009864396001978282409974
theorem pw_lit {p : Nat} [NeZero p] (f : Nat) (B : Fin p) (e : Nat) (he : e < 2 ^ f) (r : Fin p) (h : Nat.beq (pm p f B.val e 1 % p) r.val = true) : pw B e = r :=
  Fin.ext ((pw_of_pm f B e he).trans (Nat.eq_of_beq_eq_true h))
theorem d25_hf : pw d25 hf25 = 0 - 1 := pw_lit 256 d25 hf25 (by decide +kernel) _ (by decide +kernel)
theorem d25_ns (s : Fin p25) : s * s ≠ d25 := by
  intro h
  have hs : s ≠ 0 := by
    rintro rfl
    exact absurd h (by decide +kernel)
  have h1 := gen_p25.fermat s hs
  have h2 : pw (s * s) hf25 = pw s (p25 - 1) := by
    rw [pw_mulbase, ← pw_add]
    rfl
  rw [h, d25_hf, h1] at h2
  exact absurd h2 (by decide +kernel)
abbrev Eon : Fin p25 × Fin p25 → Prop := eonc d25
abbrev eadd : Fin p25 × Fin p25 → Fin p25 × Fin p25 → Fin p25 × Fin p25 := radd fiv d25
abbrev eZ : Fin p25 × Fin p25 := (0, 1)
theorem eg : AG Eon eadd eZ (fun a => (0 - a.1, a.2)) := eag fld_p25 two_p25 i25_sq d25_ns
def eB : Fin p25 × Fin p25 := (bx25, by25)
theorem eB_on : Eon eB := by
  show by25 * by25 - bx25 * bx25 = 1 + d25 * (bx25 * bx25) * (by25 * by25)
  decide +kernel
/- ROOTS -/
def sN25 : Nat := 7237005577332262213973186563042994240829374041602535252466099000494570602494
def sM25 : Nat := 14474011154664524427946373126085988481658748083205070504932198000989141204987
def rt1 (a : Fin p25) : Fin p25 := if pw a sN25 * pw a sN25 = a then pw a sN25 else pw a sN25 * pw 2 sM25
def rtF (a : Fin p25) : Fin p25 := if (rt1 a).val % 2 = 1 then 0 - rt1 a else rt1 a
theorem i_lit : pw (2 : Fin p25) sM25 = i25 := pw_lit 256 2 sM25 (by decide +kernel) _ (by decide +kernel)
theorem sub_z {p : Nat} [NeZero p] {a b : Fin p} (h : a - b = 0) : a = b := by grind
theorem add_z {p : Nat} [NeZero p] {a b : Fin p} (h : a + b = 0) : a = 0 - b := by grind
theorem dif_sq {p : Nat} [NeZero p] {e : Fin p} (h : e * e = 1) : (e - 1) * (e + 1) = 0 := by grind
theorem dif_sq2 {p : Nat} [NeZero p] {a b : Fin p} (h : a * a = b * b) : (a - b) * (a + b) = 0 := by grind
theorem mul_neg2 {p : Nat} [NeZero p] (y : Fin p) : (0 - 1) * y * (0 - 1) = y := by grind
theorem mul4 {p : Nat} [NeZero p] (a b : Fin p) : a * b * (a * b) = (a * a) * (b * b) := by grind
theorem neg_sq {p : Nat} [NeZero p] (a : Fin p) : (0 - a) * (0 - a) = a * a := by grind
theorem neg_neg {p : Nat} [NeZero p] (a : Fin p) : 0 - (0 - a) = a := by grind
theorem mul_div {p : Nat} [NeZero p] {a b v : Fin p} (h : b * v = 1) : a * b * v = a := by grind
theorem rt1_sq (x : Fin p25) : rt1 (x * x) * rt1 (x * x) = x * x := by
  unfold rt1
  split
  · assumption
  · rename_i hne
    have hx : x ≠ 0 := by
      rintro rfl
      apply hne
      have : (0 : Fin p25) * 0 = 0 := by decide +kernel
      rw [this, pw_zero _ (by decide)]
      exact this
    have h1 : pw (x * x) sN25 * pw (x * x) sN25 = pw x hf25 * (x * x) := by
      rw [pw_mulbase, ← pw_add, ← pw_add]
      have : sN25 + sN25 + (sN25 + sN25) = hf25 + 1 + 1 := rfl
      rw [this]
      simp only [pw]
      exact Fin.mul_assoc _ _ _
    have h2 : pw x hf25 * pw x hf25 = 1 := by
      rw [← pw_add]
      exact gen_p25.fermat x hx
    rw [i_lit, mul4, h1, i25_sq]
    rcases gen_p25.dom _ _ (dif_sq h2) with h | h
    · exfalso
      apply hne
      rw [h1, sub_z h, Fin.one_mul]
    · rw [add_z h, mul_neg2]
theorem neg_val {a : Fin p25} (h : a ≠ 0) : (0 - a).val = p25 - a.val := by
  have h1 : a.val ≠ 0 := fun e => h (Fin.ext (by rw [e]; rfl))
  have h2 := a.isLt
  rw [Fin.sub_def]
  show (p25 - a.val + (0 : Fin p25).val) % p25 = _
  have : (0 : Fin p25).val = 0 := rfl
  rw [this, Nat.add_zero]
  exact Nat.mod_eq_of_lt (by omega)
theorem neg_par {a : Fin p25} (h : a ≠ 0) : (0 - a).val % 2 = 1 - a.val % 2 := by
  rw [neg_val h]
  have := a.isLt
  have hp : p25 % 2 = 1 := by decide +kernel
  omega
theorem rt_even (a : Fin p25) : (rtF a).val % 2 = 0 := by
  unfold rtF
  split
  · rename_i h
    rw [neg_par (by
      intro e
      rw [e] at h
      exact absurd h (by decide +kernel))]
    omega
  · omega
theorem rt_sq (x : Fin p25) : rtF (x * x) * rtF (x * x) = x * x := by
  have h := rt1_sq x
  unfold rtF
  split
  · rw [neg_sq, h]
  · exact h
theorem sq_two {a b : Fin p25} (h : a * a = b * b) : a = b ∨ a = 0 - b := by
  rcases gen_p25.dom _ _ (dif_sq2 h) with e | e
  · exact .inl (sub_z e)
  · exact .inr (add_z e)
/-- the even one of the two roots, and the other one -/
theorem rt_x (x : Fin p25) : (if x.val % 2 = 1 then 0 - rtF (x * x) else rtF (x * x)) = x := by
  have he := rt_even (x * x)
  by_cases h0 : x = 0
  · subst h0
    have : (0 : Fin p25) * 0 = 0 := by decide +kernel
    have h := rt_sq 0
    rw [this] at h ⊢
    rw [if_neg (by decide +kernel)]
    rcases gen_p25.dom _ _ h with e | e <;> exact e
  · rcases sq_two (rt_sq x) with e | e
    · rw [e] at he ⊢
      rw [if_neg (by omega)]
    · rw [e] at he ⊢
      have := neg_par h0
      rw [if_pos (by omega), neg_neg]
theorem rt_odd_ne {x : Fin p25} (h : x.val % 2 = 1) : rtF (x * x) ≠ 0 := by
  intro e
  have := rt_x x
  rw [if_pos h, e] at this
  have h0 : (0 : Fin p25) - 0 = 0 := by decide +kernel
  rw [h0] at this
  subst this
  exact absurd h (by decide +kernel)
theorem cross_x {p : Nat} [NeZero p] {d x y : Fin p} (h : y * y - x * x = 1 + d * (x * x) * (y * y)) : y * y - 1 = x * x * (d * (y * y) + 1) := by grind
/-- the square of the first coordinate, of the second one -/
theorem ex_sq {a : Fin p25 × Fin p25} (ha : Eon a) : (a.2 * a.2 - 1) * fiv (d25 * (a.2 * a.2) + 1) = a.1 * a.1 := by
  have hz := dz_ne fld_p25 two_p25 i25_sq d25_ns a.2
  have hi := fld_p25.inv _ hz
  have h : a.2 * a.2 - a.1 * a.1 = 1 + d25 * (a.1 * a.1) * (a.2 * a.2) := ha
  have : a.2 * a.2 - 1 = a.1 * a.1 * (d25 * (a.2 * a.2) + 1) := cross_x h
  rw [this, mul_div hi]
theorem d25_def : (0 - 121665 : Fin p25) * fiv 121666 = d25 := by
  have h := fld_p25.inv 121666 (by decide +kernel)
  have : d25 * 121666 = 0 - 121665 := by decide +kernel
  rw [← this, mul_div h]
theorem by25_def : (4 : Fin p25) * fiv 5 = by25 := by
  have h := fld_p25.inv 5 (by decide +kernel)
  have : by25 * 5 = 4 := by decide +kernel
  rw [← this, mul_div h]
theorem bx25_even : bx25.val % 2 = 0 := by decide +kernel
end Kr
