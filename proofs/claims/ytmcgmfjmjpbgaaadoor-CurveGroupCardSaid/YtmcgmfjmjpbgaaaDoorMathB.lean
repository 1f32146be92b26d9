/- Part of the proof: MathB. -/
import Derived.Test.YtmcgmfjmjpbgaaaDoorMathA
set_option linter.unusedVariables false
set_option linter.unusedSectionVars false
set_option maxRecDepth 100000
namespace Kr
/- THE CURVE y y = x x x - 3 x + b over the numbers modulo p: sums by one formula, sums as they stand in the book, and that they are one; the group. -/
def fW : Fm := fun {_} O _ c x => O.add (O.sub (O.mul x (O.mul x x)) (O.add (O.add x x) x)) c
theorem fW_good : fW.Good := fun _ _ _ h => fun _ hc hx => h.add (h.sub (h.mul hx (h.mul hx hx)) (h.add (h.add hx hx) hx)) hc
structure P3 (α : Type) where
  x : α
  y : α
  z : α
section
variable {α : Type} (O : Ops α)
def cross (a b a2 b2 aa bb : α) : α := O.sub (O.mul (O.add a b) (O.add a2 b2)) (O.add aa bb)
def three (a : α) : α := O.add (O.add a a) a
def wplus (b : α) (p q : P3 α) : P3 α :=
  let xx := O.mul p.x q.x
  let yy := O.mul p.y q.y
  let zz := O.mul p.z q.z
  let xy := cross O p.x p.y q.x q.y xx yy
  let yz := cross O p.y p.z q.y q.z yy zz
  let xz := cross O p.x p.z q.x q.z xx zz
  let u := three O (O.sub xz (O.mul b zz))
  let minus := O.sub yy u
  let plus := O.add yy u
  let zz3 := three O zz
  let v := three O (O.sub (O.sub (O.mul b xz) zz3) xx)
  let w := O.sub (three O xx) zz3
  ⟨O.sub (O.mul xy plus) (O.mul yz v), O.add (O.mul plus minus) (O.mul w v), O.add (O.mul yz minus) (O.mul xy w)⟩
end
structure P3R {α β : Type} (R : α → β → Prop) (p : P3 α) (q : P3 β) : Prop where
  x : R p.x q.x
  y : R p.y q.y
  z : R p.z q.z
theorem wplus_good {α β : Type} {O : Ops α} {O' : Ops β} {R : α → β → Prop} (h : Resp O O' R) {b b' p p' q q'} (hb : R b b') (hp : P3R R p p') (hq : P3R R q q') : P3R R (wplus O b p q) (wplus O' b' p' q') := by
  have hc : ∀ {a1 a2 a3 a4 a5 a6 b1 b2 b3 b4 b5 b6}, R a1 b1 → R a2 b2 → R a3 b3 → R a4 b4 → R a5 b5 → R a6 b6 → R (cross O a1 a2 a3 a4 a5 a6) (cross O' b1 b2 b3 b4 b5 b6) :=
    fun h1 h2 h3 h4 h5 h6 => h.sub (h.mul (h.add h1 h2) (h.add h3 h4)) (h.add h5 h6)
  have ht : ∀ {a b}, R a b → R (three O a) (three O' b) := fun h1 => h.add (h.add h1 h1) h1
  have xx := h.mul hp.x hq.x
  have yy := h.mul hp.y hq.y
  have zz := h.mul hp.z hq.z
  have xy := hc hp.x hp.y hq.x hq.y xx yy
  have yz := hc hp.y hp.z hq.y hq.z yy zz
  have xz := hc hp.x hp.z hq.x hq.z xx zz
  have u := ht (h.sub xz (h.mul hb zz))
  have minus := h.sub yy u
  have plus := h.add yy u
  have zz3 := ht zz
  have v := ht (h.sub (h.sub (h.mul hb xz) zz3) xx)
  have w := h.sub (ht xx) zz3
  exact ⟨h.sub (h.mul xy plus) (h.mul yz v), h.add (h.mul plus minus) (h.mul w v), h.add (h.mul yz minus) (h.mul xy w)⟩

/- THE FORMULAS THAT ARE CHECKED -/
section
variable {α : Type} (O : Ops α) (I : Ins α)
def Ins.p : P3 α := ⟨I.x1, I.y1, I.one⟩
def Ins.q : P3 α := ⟨I.x2, I.y2, I.one⟩
def Ins.r : P3 α := ⟨I.x3, I.y3, I.one⟩
/-- p, and the point opposite to it -/
def Ins.o : P3 α := ⟨I.x1, O.sub I.zero I.y1, I.one⟩
def sq (a : α) : α := O.mul a a
def cub (a : α) : α := O.mul (O.mul a a) a
/-- the numerators of x and y of a sum of two, over d d and d d d -/
def xn (x1 y1 x2 y2 : α) : α := O.sub (sq O (O.sub y2 y1)) (O.mul (O.add x1 x2) (sq O (O.sub x2 x1)))
def yn (x1 y1 x2 y2 : α) : α := O.sub (O.mul (O.sub y2 y1) (O.sub (O.mul x1 (sq O (O.sub x2 x1))) (xn O x1 y1 x2 y2))) (O.mul y1 (cub O (O.sub x2 x1)))
/-- those of a point taken twice, over 4 y y and 8 y y y -/
def tt (one x : α) : α := three O (O.sub (O.mul x x) one)
def dd (y : α) : α := O.add y y
def xd (one x y : α) : α := O.sub (sq O (tt O one x)) (O.mul (O.add x x) (sq O (dd O y)))
def yd (one x y : α) : α := O.sub (O.mul (tt O one x) (O.sub (O.mul x (sq O (dd O y))) (xd O one x y))) (O.mul y (cub O (dd O y)))
end
def gXZ : Gm := fun {_} O I => O.sub (O.mul (wplus O I.c (wplus O I.c I.p I.q) I.r).x (wplus O I.c I.p (wplus O I.c I.q I.r)).z) (O.mul (wplus O I.c I.p (wplus O I.c I.q I.r)).x (wplus O I.c (wplus O I.c I.p I.q) I.r).z)
def gYZ : Gm := fun {_} O I => O.sub (O.mul (wplus O I.c (wplus O I.c I.p I.q) I.r).y (wplus O I.c I.p (wplus O I.c I.q I.r)).z) (O.mul (wplus O I.c I.p (wplus O I.c I.q I.r)).y (wplus O I.c (wplus O I.c I.p I.q) I.r).z)
def gXY : Gm := fun {_} O I => O.sub (O.mul (wplus O I.c (wplus O I.c I.p I.q) I.r).x (wplus O I.c I.p (wplus O I.c I.q I.r)).y) (O.mul (wplus O I.c I.p (wplus O I.c I.q I.r)).x (wplus O I.c (wplus O I.c I.p I.q) I.r).y)
def gI1 : Gm := fun {_} O I => O.sub (O.mul (wplus O I.c I.p I.q).x (sq O (O.sub I.x2 I.x1))) (O.mul (wplus O I.c I.p I.q).z (xn O I.x1 I.y1 I.x2 I.y2))
def gI2 : Gm := fun {_} O I => O.sub (O.mul (wplus O I.c I.p I.q).y (cub O (O.sub I.x2 I.x1))) (O.mul (wplus O I.c I.p I.q).z (yn O I.x1 I.y1 I.x2 I.y2))
def gI3 : Gm := fun {_} O I => O.sub (wplus O I.c I.p I.q).z (yn O I.x1 I.y1 I.x2 (O.sub I.zero I.y2))
/-- the sum lies on the curve -/
def onq {α : Type} (O : Ops α) (c X Y d : α) : α := O.sub (sq O Y) (O.add (O.sub (cub O X) (three O (O.mul X (sq O (sq O d))))) (O.mul c (sq O (cub O d))))
def gI4 : Gm := fun {_} O I => onq O I.c (xn O I.x1 I.y1 I.x2 I.y2) (yn O I.x1 I.y1 I.x2 I.y2) (O.sub I.x2 I.x1)
def gI5 : Gm := fun {_} O I => onq O I.c (xn O I.x1 I.y1 I.x2 (O.sub I.zero I.y2)) (yn O I.x1 I.y1 I.x2 (O.sub I.zero I.y2)) (O.sub I.x2 I.x1)
def gJ1 : Gm := fun {_} O I => O.sub (wplus O I.c I.p I.p).z (cub O (dd O I.y1))
def gJ2 : Gm := fun {_} O I => O.sub (O.mul (wplus O I.c I.p I.p).x (sq O (dd O I.y1))) (O.mul (wplus O I.c I.p I.p).z (xd O I.one I.x1 I.y1))
def gJ3 : Gm := fun {_} O I => O.sub (O.mul (wplus O I.c I.p I.p).y (cub O (dd O I.y1))) (O.mul (wplus O I.c I.p I.p).z (yd O I.one I.x1 I.y1))
def gJ4 : Gm := fun {_} O I => onq O I.c (xd O I.one I.x1 I.y1) (yd O I.one I.x1 I.y1) (dd O I.y1)
def gJ5 : Gm := fun {_} O I => (wplus O I.c I.p (I.o O)).x
def gJ6 : Gm := fun {_} O I => (wplus O I.c I.p (I.o O)).z
def gJ7 : Gm := fun {_} O I => O.sub (wplus O I.c I.p (I.o O)).y (yd O I.one I.x1 I.y1)

section
variable {α β : Type} {O : Ops α} {O' : Ops β} {R : α → β → Prop} (h : Resp O O' R)
include h
theorem p_good {I : Ins α} {J : Ins β} (hi : InsR R I J) : P3R R I.p J.p := ⟨hi.x1, hi.y1, hi.one⟩
theorem q_good {I : Ins α} {J : Ins β} (hi : InsR R I J) : P3R R I.q J.q := ⟨hi.x2, hi.y2, hi.one⟩
theorem r_good {I : Ins α} {J : Ins β} (hi : InsR R I J) : P3R R I.r J.r := ⟨hi.x3, hi.y3, hi.one⟩
theorem o_good {I : Ins α} {J : Ins β} (hi : InsR R I J) : P3R R (I.o O) (J.o O') := ⟨hi.x1, h.sub hi.zero hi.y1, hi.one⟩
theorem sq_good {a a'} (ha : R a a') : R (sq O a) (sq O' a') := h.mul ha ha
theorem cub_good {a a'} (ha : R a a') : R (cub O a) (cub O' a') := h.mul (h.mul ha ha) ha
theorem three_good {a a'} (ha : R a a') : R (three O a) (three O' a') := h.add (h.add ha ha) ha
theorem xn_good {a a' b b' c c' d d'} (ha : R a a') (hb : R b b') (hc : R c c') (hd : R d d') : R (xn O a b c d) (xn O' a' b' c' d') :=
  h.sub (sq_good h (h.sub hd hb)) (h.mul (h.add ha hc) (sq_good h (h.sub hc ha)))
theorem yn_good {a a' b b' c c' d d'} (ha : R a a') (hb : R b b') (hc : R c c') (hd : R d d') : R (yn O a b c d) (yn O' a' b' c' d') :=
  h.sub (h.mul (h.sub hd hb) (h.sub (h.mul ha (sq_good h (h.sub hc ha))) (xn_good h ha hb hc hd))) (h.mul hb (cub_good h (h.sub hc ha)))
theorem tt_good {a a' b b'} (ha : R a a') (hb : R b b') : R (tt O a b) (tt O' a' b') := three_good h (h.sub (h.mul hb hb) ha)
theorem dd_good {a a'} (ha : R a a') : R (dd O a) (dd O' a') := h.add ha ha
theorem xd_good {a a' b b' c c'} (ha : R a a') (hb : R b b') (hc : R c c') : R (xd O a b c) (xd O' a' b' c') :=
  h.sub (sq_good h (tt_good h ha hb)) (h.mul (h.add hb hb) (sq_good h (dd_good h hc)))
theorem yd_good {a a' b b' c c'} (ha : R a a') (hb : R b b') (hc : R c c') : R (yd O a b c) (yd O' a' b' c') :=
  h.sub (h.mul (tt_good h ha hb) (h.sub (h.mul hb (sq_good h (dd_good h hc))) (xd_good h ha hb hc))) (h.mul hc (cub_good h (dd_good h hc)))
theorem onq_good {a a' b b' c c' d d'} (ha : R a a') (hb : R b b') (hc : R c c') (hd : R d d') : R (onq O a b c d) (onq O' a' b' c' d') :=
  h.sub (sq_good h hc) (h.add (h.sub (cub_good h hb) (three_good h (h.mul hb (sq_good h (sq_good h hd))))) (h.mul ha (sq_good h (cub_good h hd))))
end
theorem gXZ_good : gXZ.Good := fun O O' R h _ _ hi => have a := wplus_good h hi.c (wplus_good h hi.c (p_good h hi) (q_good h hi)) (r_good h hi); have b := wplus_good h hi.c (p_good h hi) (wplus_good h hi.c (q_good h hi) (r_good h hi)); h.sub (h.mul a.x b.z) (h.mul b.x a.z)
theorem gYZ_good : gYZ.Good := fun O O' R h _ _ hi => have a := wplus_good h hi.c (wplus_good h hi.c (p_good h hi) (q_good h hi)) (r_good h hi); have b := wplus_good h hi.c (p_good h hi) (wplus_good h hi.c (q_good h hi) (r_good h hi)); h.sub (h.mul a.y b.z) (h.mul b.y a.z)
theorem gXY_good : gXY.Good := fun O O' R h _ _ hi => have a := wplus_good h hi.c (wplus_good h hi.c (p_good h hi) (q_good h hi)) (r_good h hi); have b := wplus_good h hi.c (p_good h hi) (wplus_good h hi.c (q_good h hi) (r_good h hi)); h.sub (h.mul a.x b.y) (h.mul b.x a.y)
theorem gI1_good : gI1.Good := fun O O' R h _ _ hi => have a := wplus_good h hi.c (p_good h hi) (q_good h hi); h.sub (h.mul a.x (sq_good h (h.sub hi.x2 hi.x1))) (h.mul a.z (xn_good h hi.x1 hi.y1 hi.x2 hi.y2))
theorem gI2_good : gI2.Good := fun O O' R h _ _ hi => have a := wplus_good h hi.c (p_good h hi) (q_good h hi); h.sub (h.mul a.y (cub_good h (h.sub hi.x2 hi.x1))) (h.mul a.z (yn_good h hi.x1 hi.y1 hi.x2 hi.y2))
theorem gI3_good : gI3.Good := fun O O' R h _ _ hi => have a := wplus_good h hi.c (p_good h hi) (q_good h hi); h.sub a.z (yn_good h hi.x1 hi.y1 hi.x2 (h.sub hi.zero hi.y2))
theorem gI4_good : gI4.Good := fun O O' R h _ _ hi => onq_good h hi.c (xn_good h hi.x1 hi.y1 hi.x2 hi.y2) (yn_good h hi.x1 hi.y1 hi.x2 hi.y2) (h.sub hi.x2 hi.x1)
theorem gI5_good : gI5.Good := fun O O' R h _ _ hi => onq_good h hi.c (xn_good h hi.x1 hi.y1 hi.x2 (h.sub hi.zero hi.y2)) (yn_good h hi.x1 hi.y1 hi.x2 (h.sub hi.zero hi.y2)) (h.sub hi.x2 hi.x1)
theorem gJ1_good : gJ1.Good := fun O O' R h _ _ hi => have a := wplus_good h hi.c (p_good h hi) (p_good h hi); h.sub a.z (cub_good h (dd_good h hi.y1))
theorem gJ2_good : gJ2.Good := fun O O' R h _ _ hi => have a := wplus_good h hi.c (p_good h hi) (p_good h hi); h.sub (h.mul a.x (sq_good h (dd_good h hi.y1))) (h.mul a.z (xd_good h hi.one hi.x1 hi.y1))
theorem gJ3_good : gJ3.Good := fun O O' R h _ _ hi => have a := wplus_good h hi.c (p_good h hi) (p_good h hi); h.sub (h.mul a.y (cub_good h (dd_good h hi.y1))) (h.mul a.z (yd_good h hi.one hi.x1 hi.y1))
theorem gJ4_good : gJ4.Good := fun O O' R h _ _ hi => onq_good h hi.c (xd_good h hi.one hi.x1 hi.y1) (yd_good h hi.one hi.x1 hi.y1) (dd_good h hi.y1)
theorem gJ5_good : gJ5.Good := fun O O' R h _ _ hi => (wplus_good h hi.c (p_good h hi) (o_good h hi)).x
theorem gJ6_good : gJ6.Good := fun O O' R h _ _ hi => (wplus_good h hi.c (p_good h hi) (o_good h hi)).z
theorem gJ7_good : gJ7.Good := fun O O' R h _ _ hi => h.sub (wplus_good h hi.c (p_good h hi) (o_good h hi)).y (yd_good h hi.one hi.x1 hi.y1)
def BB : Bd := ⟨2 ^ 60 - 1, 12, 12, 12, 12⟩
theorem BB_n : BB.n < 2 ^ 60 := by decide
theorem bdJ1 : T3.all (fun a => a.le BB) (gJ1 (bdBase.O3 fW) bdBase.ins) = true := by decide +kernel
theorem ptJ1 : T3.all (fun z => z == 0) (gJ1 ((pointBase 60 BB).O3 fW) (pointBase 60 BB).ins) = true := by decide +kernel
theorem bdJ2 : T3.all (fun a => a.le BB) (gJ2 (bdBase.O3 fW) bdBase.ins) = true := by decide +kernel
theorem ptJ2 : T3.all (fun z => z == 0) (gJ2 ((pointBase 60 BB).O3 fW) (pointBase 60 BB).ins) = true := by decide +kernel
theorem bdJ3 : T3.all (fun a => a.le BB) (gJ3 (bdBase.O3 fW) bdBase.ins) = true := by decide +kernel
theorem ptJ3 : T3.all (fun z => z == 0) (gJ3 ((pointBase 60 BB).O3 fW) (pointBase 60 BB).ins) = true := by decide +kernel
theorem bdJ4 : T3.all (fun a => a.le BB) (gJ4 (bdBase.O3 fW) bdBase.ins) = true := by decide +kernel
theorem ptJ4 : T3.all (fun z => z == 0) (gJ4 ((pointBase 60 BB).O3 fW) (pointBase 60 BB).ins) = true := by decide +kernel
theorem bdJ5 : T3.all (fun a => a.le BB) (gJ5 (bdBase.O3 fW) bdBase.ins) = true := by decide +kernel
theorem ptJ5 : T3.all (fun z => z == 0) (gJ5 ((pointBase 60 BB).O3 fW) (pointBase 60 BB).ins) = true := by decide +kernel
theorem bdJ6 : T3.all (fun a => a.le BB) (gJ6 (bdBase.O3 fW) bdBase.ins) = true := by decide +kernel
theorem ptJ6 : T3.all (fun z => z == 0) (gJ6 ((pointBase 60 BB).O3 fW) (pointBase 60 BB).ins) = true := by decide +kernel
theorem bdJ7 : T3.all (fun a => a.le BB) (gJ7 (bdBase.O3 fW) bdBase.ins) = true := by decide +kernel
theorem ptJ7 : T3.all (fun z => z == 0) (gJ7 ((pointBase 60 BB).O3 fW) (pointBase 60 BB).ins) = true := by decide +kernel
theorem bdI1 : T3.all (fun a => a.le BB) (gI1 (bdBase.O3 fW) bdBase.ins) = true := by decide +kernel
theorem ptI1 : T3.all (fun z => z == 0) (gI1 ((pointBase 60 BB).O3 fW) (pointBase 60 BB).ins) = true := by decide +kernel
theorem bdI2 : T3.all (fun a => a.le BB) (gI2 (bdBase.O3 fW) bdBase.ins) = true := by decide +kernel
theorem ptI2 : T3.all (fun z => z == 0) (gI2 ((pointBase 60 BB).O3 fW) (pointBase 60 BB).ins) = true := by decide +kernel
theorem bdI3 : T3.all (fun a => a.le BB) (gI3 (bdBase.O3 fW) bdBase.ins) = true := by decide +kernel
theorem ptI3 : T3.all (fun z => z == 0) (gI3 ((pointBase 60 BB).O3 fW) (pointBase 60 BB).ins) = true := by decide +kernel
theorem bdI4 : T3.all (fun a => a.le BB) (gI4 (bdBase.O3 fW) bdBase.ins) = true := by decide +kernel
theorem ptI4 : T3.all (fun z => z == 0) (gI4 ((pointBase 60 BB).O3 fW) (pointBase 60 BB).ins) = true := by decide +kernel
theorem bdI5 : T3.all (fun a => a.le BB) (gI5 (bdBase.O3 fW) bdBase.ins) = true := by decide +kernel
theorem ptI5 : T3.all (fun z => z == 0) (gI5 ((pointBase 60 BB).O3 fW) (pointBase 60 BB).ins) = true := by decide +kernel
theorem bdXZ : T3.all (fun a => a.le BB) (gXZ (bdBase.O3 fW) bdBase.ins) = true := by decide +kernel
theorem ptXZ : T3.all (fun z => z == 0) (gXZ ((pointBase 60 BB).O3 fW) (pointBase 60 BB).ins) = true := by decide +kernel
theorem bdYZ : T3.all (fun a => a.le BB) (gYZ (bdBase.O3 fW) bdBase.ins) = true := by decide +kernel
theorem ptYZ : T3.all (fun z => z == 0) (gYZ ((pointBase 60 BB).O3 fW) (pointBase 60 BB).ins) = true := by decide +kernel
theorem bdXY : T3.all (fun a => a.le BB) (gXY (bdBase.O3 fW) bdBase.ins) = true := by decide +kernel
theorem ptXY : T3.all (fun z => z == 0) (gXY ((pointBase 60 BB).O3 fW) (pointBase 60 BB).ins) = true := by decide +kernel
section
variable {p : Nat} [NeZero p] {c x1 y1 x2 y2 x3 y3 : Fin p} (h1 : y1 * y1 = fW (Ops.fin p) 1 c x1) (h2 : y2 * y2 = fW (Ops.fin p) 1 c x2) (h3 : y3 * y3 = fW (Ops.fin p) 1 c x3)
include h1
theorem idJ1 : gJ1 (Ops.fin p) ⟨0, 1, c, x1, y1, x1, y1, x1, y1⟩ = 0 := tower_fin fW fW_good gJ1 gJ1_good 60 BB BB_n bdJ1 ptJ1 c x1 y1 x1 y1 x1 y1 h1 h1 h1
theorem idJ2 : gJ2 (Ops.fin p) ⟨0, 1, c, x1, y1, x1, y1, x1, y1⟩ = 0 := tower_fin fW fW_good gJ2 gJ2_good 60 BB BB_n bdJ2 ptJ2 c x1 y1 x1 y1 x1 y1 h1 h1 h1
theorem idJ3 : gJ3 (Ops.fin p) ⟨0, 1, c, x1, y1, x1, y1, x1, y1⟩ = 0 := tower_fin fW fW_good gJ3 gJ3_good 60 BB BB_n bdJ3 ptJ3 c x1 y1 x1 y1 x1 y1 h1 h1 h1
theorem idJ4 : gJ4 (Ops.fin p) ⟨0, 1, c, x1, y1, x1, y1, x1, y1⟩ = 0 := tower_fin fW fW_good gJ4 gJ4_good 60 BB BB_n bdJ4 ptJ4 c x1 y1 x1 y1 x1 y1 h1 h1 h1
theorem idJ5 : gJ5 (Ops.fin p) ⟨0, 1, c, x1, y1, x1, y1, x1, y1⟩ = 0 := tower_fin fW fW_good gJ5 gJ5_good 60 BB BB_n bdJ5 ptJ5 c x1 y1 x1 y1 x1 y1 h1 h1 h1
theorem idJ6 : gJ6 (Ops.fin p) ⟨0, 1, c, x1, y1, x1, y1, x1, y1⟩ = 0 := tower_fin fW fW_good gJ6 gJ6_good 60 BB BB_n bdJ6 ptJ6 c x1 y1 x1 y1 x1 y1 h1 h1 h1
theorem idJ7 : gJ7 (Ops.fin p) ⟨0, 1, c, x1, y1, x1, y1, x1, y1⟩ = 0 := tower_fin fW fW_good gJ7 gJ7_good 60 BB BB_n bdJ7 ptJ7 c x1 y1 x1 y1 x1 y1 h1 h1 h1
include h2
theorem idI1 : gI1 (Ops.fin p) ⟨0, 1, c, x1, y1, x2, y2, x2, y2⟩ = 0 := tower_fin fW fW_good gI1 gI1_good 60 BB BB_n bdI1 ptI1 c x1 y1 x2 y2 x2 y2 h1 h2 h2
theorem idI2 : gI2 (Ops.fin p) ⟨0, 1, c, x1, y1, x2, y2, x2, y2⟩ = 0 := tower_fin fW fW_good gI2 gI2_good 60 BB BB_n bdI2 ptI2 c x1 y1 x2 y2 x2 y2 h1 h2 h2
theorem idI3 : gI3 (Ops.fin p) ⟨0, 1, c, x1, y1, x2, y2, x2, y2⟩ = 0 := tower_fin fW fW_good gI3 gI3_good 60 BB BB_n bdI3 ptI3 c x1 y1 x2 y2 x2 y2 h1 h2 h2
theorem idI4 : gI4 (Ops.fin p) ⟨0, 1, c, x1, y1, x2, y2, x2, y2⟩ = 0 := tower_fin fW fW_good gI4 gI4_good 60 BB BB_n bdI4 ptI4 c x1 y1 x2 y2 x2 y2 h1 h2 h2
theorem idI5 : gI5 (Ops.fin p) ⟨0, 1, c, x1, y1, x2, y2, x2, y2⟩ = 0 := tower_fin fW fW_good gI5 gI5_good 60 BB BB_n bdI5 ptI5 c x1 y1 x2 y2 x2 y2 h1 h2 h2
include h3
theorem idXZ : gXZ (Ops.fin p) ⟨0, 1, c, x1, y1, x2, y2, x3, y3⟩ = 0 := tower_fin fW fW_good gXZ gXZ_good 60 BB BB_n bdXZ ptXZ c x1 y1 x2 y2 x3 y3 h1 h2 h3
theorem idYZ : gYZ (Ops.fin p) ⟨0, 1, c, x1, y1, x2, y2, x3, y3⟩ = 0 := tower_fin fW fW_good gYZ gYZ_good 60 BB BB_n bdYZ ptYZ c x1 y1 x2 y2 x3 y3 h1 h2 h3
theorem idXY : gXY (Ops.fin p) ⟨0, 1, c, x1, y1, x2, y2, x3, y3⟩ = 0 := tower_fin fW fW_good gXY gXY_good 60 BB BB_n bdXY ptXY c x1 y1 x2 y2 x3 y3 h1 h2 h3
end
end Kr
namespace Kr
section
variable {p : Nat} [NeZero p] {iv : Fin p → Fin p} (F : Fld p iv) (c : Fin p)
/-- the points: nothing, and pairs on the curve -/
def on (x y : Fin p) : Prop := y * y = fW (Ops.fin p) 1 c x
def onP : Option (Fin p × Fin p) → Prop
  | none => True
  | some a => on c a.1 a.2
def pj : Option (Fin p × Fin p) → P3 (Fin p)
  | none => ⟨0, 1, 0⟩
  | some a => ⟨a.1, a.2, 1⟩
/-- three coordinates stand for a point -/
def Rep (P : P3 (Fin p)) : Option (Fin p × Fin p) → Prop
  | none => P.x = 0 ∧ P.z = 0 ∧ P.y ≠ 0
  | some a => P.z ≠ 0 ∧ P.x = a.1 * P.z ∧ P.y = a.2 * P.z
/-- THE SUM, as it stands in the book -/
def rplus (iv : Fin p → Fin p) : Option (Fin p × Fin p) → Option (Fin p × Fin p) → Option (Fin p × Fin p)
  | none, b => b
  | some a, none => some a
  | some (x1, y1), some (x2, y2) =>
    if x1 = x2 then
      if y1 = y2 ∧ y1 ≠ 0 then
        let s := (3 * (x1 * x1 - 1)) * iv (y1 + y1)
        let r := s * s - x1 - x2
        some (r, s * (x1 - r) - y1)
      else none
    else
      let s := (y2 - y1) * iv (x2 - x1)
      let r := s * s - x1 - x2
      some (r, s * (x1 - r) - y1)
def rneg : Option (Fin p × Fin p) → Option (Fin p × Fin p)
  | none => none
  | some a => some (a.1, 0 - a.2)
include F
variable (h2 : (1 : Fin p) + 1 ≠ 0) (hr : ∀ x : Fin p, fW (Ops.fin p) 1 c x ≠ 0)
include h2 hr

theorem on_ne {x y : Fin p} (h : on c x y) : y ≠ 0 := by
  intro h0
  refine hr x ?_
  rw [← h, h0]
  grind
theorem dd_ne {y : Fin p} (h : y ≠ 0) : y + y ≠ 0 := by
  have := F.mul_ne h2 h
  grind
omit F h2 hr in
theorem on_neg {x y : Fin p} (h : on c x y) : on c x (0 - y) := by
  unfold on at *
  grind

omit F h2 hr in
theorem on_def (x y : Fin p) : on c x y ↔ y * y = x * (x * x) - (x + x + x) + c := Iff.rfl

/-- a quotient on the curve -/
theorem on_quot {X Y d : Fin p} (hd : d ≠ 0) (h : onq (Ops.fin p) c X Y d = 0) : on c (X * (iv d * iv d)) (Y * (iv d * iv d * iv d)) := by
  have hi := F.inv d hd
  have h : Y * Y - ((X * X * X - (X * ((d * d) * (d * d)) + X * ((d * d) * (d * d)) + X * ((d * d) * (d * d)))) + c * ((d * d * d) * (d * d * d))) = 0 := h
  rw [on_def]
  generalize iv d = i at *
  have e : d * d * (d * d) * (d * d) * ((i * i * i) * (i * i * i)) = 1 := by
    have : d * d * (d * d) * (d * d) * ((i * i * i) * (i * i * i)) = (d * i) * (d * i) * (d * i) * (d * i) * (d * i) * (d * i) := by grind
    rw [this, hi]; grind
  have e4 : (d * d) * (d * d) * ((i * i) * (i * i)) = 1 := by
    have : (d * d) * (d * d) * ((i * i) * (i * i)) = (d * i) * (d * i) * (d * i) * (d * i) := by grind
    rw [this, hi]; grind
  grind

omit F h2 hr in
theorem frac {X Y Z d n i x1 x2 y1 : Fin p} (hi : d * i = 1) (i1 : X * (d * d) - Z * (n * n - (x1 + x2) * (d * d)) = 0)
    (i2 : Y * (d * d * d) - Z * (n * (x1 * (d * d) - (n * n - (x1 + x2) * (d * d))) - y1 * (d * d * d)) = 0) :
    (n * n - (x1 + x2) * (d * d)) * (i * i) = n * i * (n * i) - x1 - x2 ∧
    (n * (x1 * (d * d) - (n * n - (x1 + x2) * (d * d))) - y1 * (d * d * d)) * (i * i * i) = n * i * (x1 - (n * i * (n * i) - x1 - x2)) - y1 ∧
    X = (n * i * (n * i) - x1 - x2) * Z ∧ Y = (n * i * (x1 - (n * i * (n * i) - x1 - x2)) - y1) * Z := by
  have ex : (n * n - (x1 + x2) * (d * d)) * (i * i) = n * i * (n * i) - x1 - x2 := by grind
  have ey : (n * (x1 * (d * d) - (n * n - (x1 + x2) * (d * d))) - y1 * (d * d * d)) * (i * i * i) = n * i * (x1 - (n * i * (n * i) - x1 - x2)) - y1 := by grind
  refine ⟨ex, ey, ?_, ?_⟩
  · rw [← ex]
    have : X = X * (d * d) * (i * i) := by grind
    grind
  · rw [← ey]
    have : Y = Y * (d * d * d) * (i * i * i) := by grind
    grind

/-- the sum of two with other first coordinates -/
theorem sum_gen {x1 y1 x2 y2 : Fin p} (a : on c x1 y1) (b : on c x2 y2) (hx : x1 ≠ x2) :
    Rep (wplus (Ops.fin p) c ⟨x1, y1, 1⟩ ⟨x2, y2, 1⟩) (rplus iv (some (x1, y1)) (some (x2, y2))) ∧ onP c (rplus iv (some (x1, y1)) (some (x2, y2))) := by
  have hd : x2 - x1 ≠ 0 := fun h => hx (by grind)
  have i1 : (wplus (Ops.fin p) c ⟨x1, y1, 1⟩ ⟨x2, y2, 1⟩).x * ((x2 - x1) * (x2 - x1)) - (wplus (Ops.fin p) c ⟨x1, y1, 1⟩ ⟨x2, y2, 1⟩).z * ((y2 - y1) * (y2 - y1) - (x1 + x2) * ((x2 - x1) * (x2 - x1))) = 0 := idI1 a b
  have i2 : (wplus (Ops.fin p) c ⟨x1, y1, 1⟩ ⟨x2, y2, 1⟩).y * ((x2 - x1) * (x2 - x1) * (x2 - x1)) - (wplus (Ops.fin p) c ⟨x1, y1, 1⟩ ⟨x2, y2, 1⟩).z * ((y2 - y1) * (x1 * ((x2 - x1) * (x2 - x1)) - ((y2 - y1) * (y2 - y1) - (x1 + x2) * ((x2 - x1) * (x2 - x1)))) - y1 * ((x2 - x1) * (x2 - x1) * (x2 - x1))) = 0 := idI2 a b
  have i3 : (wplus (Ops.fin p) c ⟨x1, y1, 1⟩ ⟨x2, y2, 1⟩).z - yn (Ops.fin p) x1 y1 x2 (0 - y2) = 0 := idI3 a b
  have i4 := on_quot F c h2 hr hd (X := xn (Ops.fin p) x1 y1 x2 y2) (Y := yn (Ops.fin p) x1 y1 x2 y2) (idI4 a b)
  have i5 := on_quot F c h2 hr hd (X := xn (Ops.fin p) x1 y1 x2 (0 - y2)) (Y := yn (Ops.fin p) x1 y1 x2 (0 - y2)) (idI5 a b)
  have hz : (wplus (Ops.fin p) c ⟨x1, y1, 1⟩ ⟨x2, y2, 1⟩).z ≠ 0 := by
    intro h0
    refine on_ne F c h2 hr i5 ?_
    rw [h0] at i3
    grind
  have hi := F.inv _ hd
  have e : rplus iv (some (x1, y1)) (some (x2, y2)) = some (((y2 - y1) * iv (x2 - x1)) * ((y2 - y1) * iv (x2 - x1)) - x1 - x2, ((y2 - y1) * iv (x2 - x1)) * (x1 - (((y2 - y1) * iv (x2 - x1)) * ((y2 - y1) * iv (x2 - x1)) - x1 - x2)) - y1) := by
    simp only [rplus, if_neg hx]
  have i4 : on c (((y2 - y1) * (y2 - y1) - (x1 + x2) * ((x2 - x1) * (x2 - x1))) * (iv (x2 - x1) * iv (x2 - x1))) (((y2 - y1) * (x1 * ((x2 - x1) * (x2 - x1)) - ((y2 - y1) * (y2 - y1) - (x1 + x2) * ((x2 - x1) * (x2 - x1)))) - y1 * ((x2 - x1) * (x2 - x1) * (x2 - x1))) * (iv (x2 - x1) * iv (x2 - x1) * iv (x2 - x1))) := i4
  obtain ⟨ex, ey, eX, eY⟩ := frac hi i1 i2
  rw [ex, ey] at i4
  rw [e]
  exact ⟨⟨hz, eX, eY⟩, i4⟩

/-- a point taken twice -/
theorem sum_twice {x y : Fin p} (a : on c x y) :
    Rep (wplus (Ops.fin p) c ⟨x, y, 1⟩ ⟨x, y, 1⟩) (rplus iv (some (x, y)) (some (x, y))) ∧ onP c (rplus iv (some (x, y)) (some (x, y))) := by
  have hy := on_ne F c h2 hr a
  have hd := dd_ne F c h2 hr hy
  have j1 : (wplus (Ops.fin p) c ⟨x, y, 1⟩ ⟨x, y, 1⟩).z - (y + y) * (y + y) * (y + y) = 0 := idJ1 a
  have j2 : (wplus (Ops.fin p) c ⟨x, y, 1⟩ ⟨x, y, 1⟩).x * ((y + y) * (y + y)) - (wplus (Ops.fin p) c ⟨x, y, 1⟩ ⟨x, y, 1⟩).z * (((x * x - 1) + (x * x - 1) + (x * x - 1)) * ((x * x - 1) + (x * x - 1) + (x * x - 1)) - (x + x) * ((y + y) * (y + y))) = 0 := idJ2 a
  have j3 : (wplus (Ops.fin p) c ⟨x, y, 1⟩ ⟨x, y, 1⟩).y * ((y + y) * (y + y) * (y + y)) - (wplus (Ops.fin p) c ⟨x, y, 1⟩ ⟨x, y, 1⟩).z * (((x * x - 1) + (x * x - 1) + (x * x - 1)) * (x * ((y + y) * (y + y)) - (((x * x - 1) + (x * x - 1) + (x * x - 1)) * ((x * x - 1) + (x * x - 1) + (x * x - 1)) - (x + x) * ((y + y) * (y + y)))) - y * ((y + y) * (y + y) * (y + y))) = 0 := idJ3 a
  have j4 : on c ((((x * x - 1) + (x * x - 1) + (x * x - 1)) * ((x * x - 1) + (x * x - 1) + (x * x - 1)) - (x + x) * ((y + y) * (y + y))) * (iv (y + y) * iv (y + y))) ((((x * x - 1) + (x * x - 1) + (x * x - 1)) * (x * ((y + y) * (y + y)) - (((x * x - 1) + (x * x - 1) + (x * x - 1)) * ((x * x - 1) + (x * x - 1) + (x * x - 1)) - (x + x) * ((y + y) * (y + y)))) - y * ((y + y) * (y + y) * (y + y))) * (iv (y + y) * iv (y + y) * iv (y + y))) :=
    on_quot F c h2 hr hd (X := xd (Ops.fin p) 1 x y) (Y := yd (Ops.fin p) 1 x y) (idJ4 a)
  have hi := F.inv _ hd
  have hz : (wplus (Ops.fin p) c ⟨x, y, 1⟩ ⟨x, y, 1⟩).z ≠ 0 := by
    have := F.mul_ne (F.mul_ne hd hd) hd
    grind
  have e : rplus iv (some (x, y)) (some (x, y)) = some (((3 * (x * x - 1)) * iv (y + y)) * ((3 * (x * x - 1)) * iv (y + y)) - x - x, ((3 * (x * x - 1)) * iv (y + y)) * (x - (((3 * (x * x - 1)) * iv (y + y)) * ((3 * (x * x - 1)) * iv (y + y)) - x - x)) - y) := by
    simp only [rplus, if_true, if_pos (show True ∧ y ≠ 0 from ⟨trivial, hy⟩)]
  have e3 : (x * x - 1) + (x * x - 1) + (x * x - 1) = 3 * (x * x - 1) := by grind
  rw [e3] at j2 j3 j4
  obtain ⟨ex, ey, eX, eY⟩ := frac hi j2 j3
  rw [ex, ey] at j4
  rw [e]
  exact ⟨⟨hz, eX, eY⟩, j4⟩

/-- a point and its opposite -/
theorem sum_opp {x y : Fin p} (a : on c x y) : Rep (wplus (Ops.fin p) c ⟨x, y, 1⟩ ⟨x, 0 - y, 1⟩) none := by
  have hy := on_ne F c h2 hr a
  have hd := dd_ne F c h2 hr hy
  have j5 : (wplus (Ops.fin p) c ⟨x, y, 1⟩ ⟨x, 0 - y, 1⟩).x = 0 := idJ5 a
  have j6 : (wplus (Ops.fin p) c ⟨x, y, 1⟩ ⟨x, 0 - y, 1⟩).z = 0 := idJ6 a
  have j7 : (wplus (Ops.fin p) c ⟨x, y, 1⟩ ⟨x, 0 - y, 1⟩).y - yd (Ops.fin p) 1 x y = 0 := idJ7 a
  have j4 := on_quot F c h2 hr hd (X := xd (Ops.fin p) 1 x y) (Y := yd (Ops.fin p) 1 x y) (idJ4 a)
  refine ⟨j5, j6, fun h0 => on_ne F c h2 hr j4 ?_⟩
  rw [h0] at j7
  grind

theorem rplus_opp {x y : Fin p} (a : on c x y) : rplus iv (some (x, y)) (some (x, 0 - y)) = none := by
  have hy := on_ne F c h2 hr a
  have hd := dd_ne F c h2 hr hy
  have : ¬ (y = 0 - y ∧ y ≠ 0) := fun h => hd (by have := h.1; grind)
  simp only [rplus, if_true, if_neg this]

/-- pairs with one first coordinate -/
theorem same_x {x y1 y2 : Fin p} (a : on c x y1) (b : on c x y2) : y2 = y1 ∨ y2 = 0 - y1 := by
  rw [on_def] at a b
  rcases F.dom (y2 - y1) (y2 + y1) (by grind) with h | h
  · left; grind
  · right; grind

omit F h2 hr in
/-- k times the three coordinates -/
def sc (k : Fin p) (P : P3 (Fin p)) : P3 (Fin p) := ⟨k * P.x, k * P.y, k * P.z⟩
omit F h2 hr in
theorem plus_none (y : Fin p) (Q : P3 (Fin p)) : wplus (Ops.fin p) c ⟨0, y, 0⟩ Q = sc (y * y * Q.y) Q := by
  simp only [wplus, cross, three, Ops.fin, P3.mk.injEq, sc]
  refine ⟨?_, ?_, ?_⟩ <;> grobner
omit F h2 hr in
theorem plus_comm (P Q : P3 (Fin p)) : wplus (Ops.fin p) c P Q = wplus (Ops.fin p) c Q P := by
  simp only [wplus, cross, three, Ops.fin, P3.mk.injEq]
  refine ⟨?_, ?_, ?_⟩ <;> grobner
omit F h2 hr in
theorem plus_sc (k m : Fin p) (P Q : P3 (Fin p)) : wplus (Ops.fin p) c (sc k P) (sc m Q) = sc (k * m * (k * m)) (wplus (Ops.fin p) c P Q) := by
  simp only [wplus, cross, three, Ops.fin, P3.mk.injEq, sc]
  refine ⟨?_, ?_, ?_⟩ <;> grobner

theorem rep_pj {A : Option (Fin p × Fin p)} : Rep (pj A) A := by
  cases A with
  | none => exact ⟨rfl, rfl, F.one⟩
  | some a => exact ⟨F.one, by show a.1 = a.1 * 1; grobner, by show a.2 = a.2 * 1; grobner⟩
theorem rep_sc {P : P3 (Fin p)} {A : Option (Fin p × Fin p)} (h : Rep P A) : ∃ k, k ≠ 0 ∧ P = sc k (pj A) := by
  obtain ⟨X, Y, Z⟩ := P
  cases A with
  | none =>
    obtain ⟨hx, hz, hy⟩ := h
    refine ⟨Y, hy, ?_⟩
    simp only [sc, pj, P3.mk.injEq] at *
    refine ⟨?_, ?_, ?_⟩ <;> grobner
  | some a =>
    obtain ⟨hz, hx, hy⟩ := h
    refine ⟨Z, hz, ?_⟩
    simp only [sc, pj, P3.mk.injEq] at *
    refine ⟨?_, ?_, ?_⟩ <;> grobner
theorem sc_rep {P : P3 (Fin p)} {A : Option (Fin p × Fin p)} {k : Fin p} (hk : k ≠ 0) (h : Rep P A) : Rep (sc k P) A := by
  cases A with
  | none =>
    obtain ⟨hx, hz, hy⟩ := h
    exact ⟨by show k * P.x = 0; rw [hx]; grobner, by show k * P.z = 0; rw [hz]; grobner, F.mul_ne hk hy⟩
  | some a =>
    obtain ⟨hz, hx, hy⟩ := h
    exact ⟨F.mul_ne hk hz, by show k * P.x = a.1 * (k * P.z); rw [hx]; grobner, by show k * P.y = a.2 * (k * P.z); rw [hy]; grobner⟩
theorem sc_sc (k m : Fin p) (P : P3 (Fin p)) : sc k (sc m P) = sc (k * m) P := by
  simp only [sc, P3.mk.injEq]
  refine ⟨?_, ?_, ?_⟩ <;> grobner
theorem rep_y {P : P3 (Fin p)} {A : Option (Fin p × Fin p)} (hA : onP c A) (h : Rep P A) : P.y ≠ 0 := by
  cases A with
  | none => exact h.2.2
  | some a =>
    rw [h.2.2]
    exact F.mul_ne (on_ne F c h2 hr hA) h.1
/-- ONE FORMULA FOR ALL SUMS -/
theorem plus_rep {P Q : P3 (Fin p)} {A B : Option (Fin p × Fin p)} (hA : onP c A) (hB : onP c B) (hP : Rep P A) (hQ : Rep Q B) :
    Rep (wplus (Ops.fin p) c P Q) (rplus iv A B) ∧ onP c (rplus iv A B) := by
  cases A with
  | none =>
    refine ⟨?_, hB⟩
    obtain ⟨X, Y, Z⟩ := P
    obtain ⟨hx, hz, hy⟩ := hP
    simp only at hx hy hz
    subst hx hz
    rw [plus_none]
    exact sc_rep F c h2 hr (F.mul_ne (F.mul_ne hy hy) (rep_y F c h2 hr hB hQ)) hQ
  | some a =>
    cases B with
    | none =>
      refine ⟨?_, hA⟩
      obtain ⟨X, Y, Z⟩ := Q
      obtain ⟨hx, hz, hy⟩ := hQ
      simp only at hx hy hz
      subst hx hz
      rw [plus_comm, plus_none]
      exact sc_rep F c h2 hr (F.mul_ne (F.mul_ne hy hy) (rep_y F c h2 hr hA hP)) hP
    | some b =>
      obtain ⟨k, hk, rfl⟩ := rep_sc F c h2 hr hP
      obtain ⟨m, hm, rfl⟩ := rep_sc F c h2 hr hQ
      rw [plus_sc]
      have hkm := F.mul_ne (F.mul_ne hk hm) (F.mul_ne hk hm)
      obtain ⟨x1, y1⟩ := a
      obtain ⟨x2, y2⟩ := b
      by_cases hx : x1 = x2
      · subst hx
        rcases same_x F c h2 hr hA hB with rfl | rfl
        · have := sum_twice F c h2 hr hA
          exact ⟨sc_rep F c h2 hr hkm this.1, this.2⟩
        · rw [rplus_opp F c h2 hr hA]
          exact ⟨sc_rep F c h2 hr hkm (sum_opp F c h2 hr hA), trivial⟩
      · have := sum_gen F c h2 hr hA hB hx
        exact ⟨sc_rep F c h2 hr hkm this.1, this.2⟩
/-- three coordinates stand for one point -/
theorem rep_one {P Q : P3 (Fin p)} {A B : Option (Fin p × Fin p)} (hP : Rep P A) (hQ : Rep Q B) (h1 : P.x * Q.z = Q.x * P.z) (h2' : P.y * Q.z = Q.y * P.z) : A = B := by
  cases A with
  | none =>
    cases B with
    | none => rfl
    | some b =>
      obtain ⟨hx, hz, hy⟩ := hP
      rw [hz] at h2'
      exact absurd (show P.y * Q.z = 0 by grobner) (F.mul_ne hy hQ.1)
  | some a =>
    cases B with
    | none =>
      obtain ⟨hx, hz, hy⟩ := hQ
      rw [hz] at h2'
      exact absurd (show Q.y * P.z = 0 by grobner) (F.mul_ne hy hP.1)
    | some b =>
      obtain ⟨hz, hx, hy⟩ := hP
      obtain ⟨hz', hx', hy'⟩ := hQ
      have hzz := F.mul_ne hz hz'
      have e1 : a.1 = b.1 := F.cancel hzz (by rw [hx, hx'] at h1; grobner)
      have e2 : a.2 = b.2 := F.cancel hzz (by rw [hy, hy'] at h2'; grobner)
      exact congrArg some (Prod.ext e1 e2)
theorem rplus_comm {A B : Option (Fin p × Fin p)} (hA : onP c A) (hB : onP c B) : rplus iv A B = rplus iv B A := by
  have a := (plus_rep F c h2 hr hA hB (rep_pj F c h2 hr) (rep_pj F c h2 hr)).1
  have b := (plus_rep F c h2 hr hB hA (rep_pj F c h2 hr) (rep_pj F c h2 hr)).1
  rw [plus_comm] at b
  exact rep_one F c h2 hr a b rfl rfl
theorem rplus_on {A B : Option (Fin p × Fin p)} (hA : onP c A) (hB : onP c B) : onP c (rplus iv A B) :=
  (plus_rep F c h2 hr hA hB (rep_pj F c h2 hr) (rep_pj F c h2 hr)).2
omit F h2 hr in
theorem rplus_none (A : Option (Fin p × Fin p)) : rplus iv A none = A := by cases A <;> rfl
theorem rplus_assoc {A B D : Option (Fin p × Fin p)} (hA : onP c A) (hB : onP c B) (hD : onP c D) : rplus iv (rplus iv A B) D = rplus iv A (rplus iv B D) := by
  cases A with
  | none => rfl
  | some a =>
  cases B with
  | none => rfl
  | some b =>
  cases D with
  | none => rw [rplus_none, rplus_none]
  | some d =>
    have ab := plus_rep F c h2 hr hA hB (rep_pj F c h2 hr) (rep_pj F c h2 hr)
    have bd := plus_rep F c h2 hr hB hD (rep_pj F c h2 hr) (rep_pj F c h2 hr)
    have l := (plus_rep F c h2 hr ab.2 hD ab.1 (rep_pj F c h2 hr)).1
    have r := (plus_rep F c h2 hr hA bd.2 (rep_pj F c h2 hr) bd.1).1
    have xz : (wplus (Ops.fin p) c (wplus (Ops.fin p) c (pj (some a)) (pj (some b))) (pj (some d))).x * (wplus (Ops.fin p) c (pj (some a)) (wplus (Ops.fin p) c (pj (some b)) (pj (some d)))).z - (wplus (Ops.fin p) c (pj (some a)) (wplus (Ops.fin p) c (pj (some b)) (pj (some d)))).x * (wplus (Ops.fin p) c (wplus (Ops.fin p) c (pj (some a)) (pj (some b))) (pj (some d))).z = 0 := idXZ hA hB hD
    have yz : (wplus (Ops.fin p) c (wplus (Ops.fin p) c (pj (some a)) (pj (some b))) (pj (some d))).y * (wplus (Ops.fin p) c (pj (some a)) (wplus (Ops.fin p) c (pj (some b)) (pj (some d)))).z - (wplus (Ops.fin p) c (pj (some a)) (wplus (Ops.fin p) c (pj (some b)) (pj (some d)))).y * (wplus (Ops.fin p) c (wplus (Ops.fin p) c (pj (some a)) (pj (some b))) (pj (some d))).z = 0 := idYZ hA hB hD
    exact rep_one F c h2 hr l r (by grobner) (by grobner)
theorem rneg_on {A : Option (Fin p × Fin p)} (hA : onP c A) : onP c (rneg A) := by
  cases A with
  | none => trivial
  | some a => exact on_neg c hA
theorem rplus_neg {A : Option (Fin p × Fin p)} (hA : onP c A) : rplus iv A (rneg A) = none := by
  cases A with
  | none => rfl
  | some a => exact rplus_opp F c h2 hr hA
end
end Kr
namespace Kr
open Fe Gp
/- THE CURVE P-256 -/
def p256 : Nat := 115792089210356248762697446949407573530086143415290314195533631308867097853951
def q256 : Nat := 115792089210356248762697446949407573529996955224135760342422259061068512044369
instance ip256 : NeZero p256 := ⟨by decide⟩
instance iq256 : NeZero q256 := ⟨by decide⟩
theorem gen_p256 : Gen p256 ⟨6, by decide⟩ p256Fs := (gen_of p256 6 256 p256Fs p256_ok p256_pr).2
theorem gen_q256 : Gen q256 ⟨7, by decide⟩ q256Fs := (gen_of q256 7 256 q256Fs q256_ok q256_pr).2
/-- the inverse; 0 of 0 -/
def fiv {p : Nat} [NeZero p] (a : Fin p) : Fin p := pw a (p - 2)
theorem fld_of {p : Nat} [NeZero p] {g : Fin p} {l : List Nat} (G : Gen p g l) : Fld p (fiv : Fin p → Fin p) := ⟨G.one_ne, G.dom, G.inv⟩
theorem fld_p256 : Fld p256 fiv := fld_of gen_p256
theorem fld_q256 : Fld q256 fiv := fld_of gen_q256
theorem two_p256 : (1 : Fin p256) + 1 ≠ 0 := by decide +kernel
def b256 : Fin p256 := ⟨0x5ac635d8aa3a93e7b3ebbd55769886bc651d06b0cc53b0f63bce3c3e27d2604b, by decide⟩
def gx256 : Fin p256 := ⟨0x6b17d1f2e12c4247f8bce6e563a440f277037d812deb33a0f4a13945d898c296, by decide⟩
def gy256 : Fin p256 := ⟨0x4fe342e2fe1a7f9b8ee7eb4a7c0f9e162bce33576b315ececbb6406837bf51f5, by decide⟩

/- x x x - 3 x + b has no root: the p-th power of x is reckoned modulo it -/
section
variable {p : Nat} [NeZero p] (b : Fin p)
def tmul (s t : P3 (Fin p)) : P3 (Fin p) :=
  let c3 := s.y * t.z + s.z * t.y
  let c4 := s.z * t.z
  ⟨s.x * t.x - b * c3, s.x * t.y + s.y * t.x + 3 * c3 - b * c4, s.x * t.z + s.y * t.y + s.z * t.x + 3 * c4⟩
def tev (r : Fin p) (s : P3 (Fin p)) : Fin p := s.x + s.y * r + s.z * (r * r)
theorem tev_x (r : Fin p) : tev r ⟨0, 1, 0⟩ = r := by simp only [tev]; grobner
theorem tev_1 (r : Fin p) : tev r ⟨1, 0, 0⟩ = 1 := by simp only [tev]; grobner
theorem tev_sub (r : Fin p) (t : P3 (Fin p)) : tev r ⟨t.x, t.y - 1, t.z⟩ = tev r t - r := by simp only [tev]; grobner
theorem tev_mul {r : Fin p} (hr : fW (Ops.fin p) 1 b r = 0) (s t : P3 (Fin p)) : tev r (tmul b s t) = tev r s * tev r t := by
  have h : r * (r * r) - (r + r + r) + b = 0 := hr
  obtain ⟨a0, a1, a2⟩ := s
  obtain ⟨c0, c1, c2⟩ := t
  simp only [tev, tmul]
  grobner
def tpw : Nat → P3 (Fin p) → Nat → P3 (Fin p) → P3 (Fin p)
  | 0, _, _, acc => acc
  | f + 1, s, e, acc => tpw f (tmul b s s) (e / 2) (if e % 2 = 1 then tmul b acc s else acc)
theorem tev_pw {r : Fin p} (hr : fW (Ops.fin p) 1 b r = 0) : ∀ (f : Nat) (s : P3 (Fin p)) (e : Nat) (acc : P3 (Fin p)), e < 2 ^ f → tev r (tpw b f s e acc) = tev r acc * pw (tev r s) e
  | 0, s, e, acc, he => by
    obtain rfl : e = 0 := by simpa using he
    simp only [tpw, pw]
    grobner
  | f + 1, s, e, acc, he => by
    have h2 : e / 2 < 2 ^ f := by rw [Nat.pow_succ] at he; omega
    simp only [tpw]
    rw [tev_pw hr f _ _ _ h2, tev_mul b hr]
    have e2 : pw (tev r s * tev r s) (e / 2) = pw (tev r s) (2 * (e / 2)) := by
      rw [pw_mul]; simp only [pw]; congr 1; grobner
    rw [e2]
    by_cases ho : e % 2 = 1
    · rw [if_pos ho, tev_mul b hr]
      have h := pw_add (tev r s) (2 * (e / 2)) 1
      rw [show 2 * (e / 2) + 1 = e by omega, pw_1] at h
      rw [h]
      grobner
    · rw [if_neg ho, show 2 * (e / 2) = e by omega]
end
def tg : P3 (Fin p256) := ⟨⟨66434390973925144466073271287821796038003695194169110494110089305650096453661, by decide⟩, ⟨12402202686218762177567235911775779164004716598278868847786114277539554646092, by decide⟩, ⟨24678849118215552148312087830792888746041224110560601850711771001608500700145, by decide⟩⟩
def th : P3 (Fin p256) := ⟨tg.x, tg.y - 1, tg.z⟩
def tv : P3 (Fin p256) := ⟨⟨76626890310466861426869089647039036757962535851890885406097439786770458211455, by decide⟩, ⟨74462945259064871768191128030512052509059297803194871526163573358218695456204, by decide⟩, ⟨34768139465301476436978405170953382516735956999154666452188405812258086013549, by decide⟩⟩
def P3.eqb {p : Nat} (a b : P3 (Fin p)) : Bool := Nat.beq a.x.val b.x.val && Nat.beq a.y.val b.y.val && Nat.beq a.z.val b.z.val
theorem P3.eq_of {p : Nat} {a b : P3 (Fin p)} (h : a.eqb b = true) : a = b := by
  simp only [P3.eqb, Bool.and_eq_true] at h
  obtain ⟨⟨h1, h2⟩, h3⟩ := h
  obtain ⟨a1, a2, a3⟩ := a
  obtain ⟨b1, b2, b3⟩ := b
  simp only [P3.mk.injEq]
  exact ⟨Fin.ext (Nat.eq_of_beq_eq_true h1), Fin.ext (Nat.eq_of_beq_eq_true h2), Fin.ext (Nat.eq_of_beq_eq_true h3)⟩
theorem tg_is : tpw b256 256 ⟨0, 1, 0⟩ p256 ⟨1, 0, 0⟩ = tg := P3.eq_of (by decide +kernel)
theorem tv_is : tmul b256 tv th = ⟨1, 0, 0⟩ := P3.eq_of (by decide +kernel)
theorem b256_ne : b256 ≠ 0 := by decide +kernel
theorem noroot_of {p : Nat} [NeZero p] {b : Fin p} {g v : P3 (Fin p)} {gn : Fin p} {l : List Nat} (G : Gen p gn l) (hb : b ≠ 0) {k : Nat} (hk : p < 2 ^ k) (hg : tpw b k ⟨0, 1, 0⟩ p ⟨1, 0, 0⟩ = g) (hv : tmul b v ⟨g.x, g.y - 1, g.z⟩ = ⟨1, 0, 0⟩)
    (r : Fin p) : fW (Ops.fin p) 1 b r ≠ 0 := by
  intro hr
  have h0 : r ≠ 0 := by
    rintro rfl
    refine hb ?_
    have h : (0 : Fin p) * (0 * 0) - (0 + 0 + 0) + b = 0 := hr
    grobner
  have hp : pw r p = r := by
    have h2 := G.two
    have := G.fermat r h0
    have e := pw_add r (p - 1) 1
    rw [this, pw_1, show p - 1 + 1 = p by omega] at e
    rw [e]
    grobner
  have h1 := tev_pw b hr k ⟨0, 1, 0⟩ p ⟨1, 0, 0⟩ hk
  rw [hg, tev_x, hp, tev_1] at h1
  have h2 := tev_mul b hr v ⟨g.x, g.y - 1, g.z⟩
  rw [hv, tev_1, tev_sub, h1] at h2
  exact G.one_ne (h2.trans (by grobner))
theorem p256_lt : p256 < 2 ^ 256 := by decide +kernel
theorem noroot : ∀ r : Fin p256, fW (Ops.fin p256) 1 b256 r ≠ 0 := noroot_of gen_p256 b256_ne p256_lt tg_is tv_is

abbrev Pt : Type := Option (Fin p256 × Fin p256)
abbrev Pon : Pt → Prop := onP b256
abbrev padd : Pt → Pt → Pt := rplus fiv
theorem ag : AG Pon padd none rneg where
  e_in := trivial
  op_in := rplus_on fld_p256 b256 two_p256 noroot
  ng_in := rneg_on fld_p256 b256 two_p256 noroot
  idl _ _ := rfl
  comm := rplus_comm fld_p256 b256 two_p256 noroot
  assoc := rplus_assoc fld_p256 b256 two_p256 noroot
  inv := rplus_neg fld_p256 b256 two_p256 noroot
def pG : Pt := some (gx256, gy256)
theorem pG_eq : gy256 * gy256 = gx256 * (gx256 * gx256) - (gx256 + gx256 + gx256) + b256 := by decide +kernel
theorem pG_on : Pon pG := pG_eq
def pO : P3 (Fin p256) := ⟨0, 1, 0⟩
/-- three coordinates, n times -/
abbrev jadd : P3 (Fin p256) → P3 (Fin p256) → P3 (Fin p256) := wplus (Ops.fin p256) b256
theorem jadd_rep {P Q : P3 (Fin p256)} {A B : Pt} (hA : Pon A) (hB : Pon B) (hP : Rep P A) (hQ : Rep Q B) : Rep (jadd P Q) (padd A B) :=
  (plus_rep fld_p256 b256 two_p256 noroot hA hB hP hQ).1
theorem tms_rep (n : Nat) {P : P3 (Fin p256)} {A : Pt} (hA : Pon A) (hP : Rep P A) :
    ∀ i (O : P3 (Fin p256)) (B : Pt), Pon B → Rep O B → Rep (tms jadd pO n P i O) (tms padd none n A i B)
  | 0, O, B, hB, hO => hO
  | i + 1, O, B, hB, hO => by
    simp only [tms]
    split
    · exact tms_rep n hA hP i _ _ (ag.op_in (ag.op_in hB hB) hA) (jadd_rep (ag.op_in hB hB) hA (jadd_rep hB hB hO hO) hP)
    · exact tms_rep n hA hP i _ _ (ag.op_in hB hB) (jadd_rep hB hB hO hO)
theorem pO_rep : Rep pO none := ⟨rfl, rfl, gen_p256.one_ne⟩
theorem times_rep {n k : Nat} (hn : n < 2 ^ k) {P : P3 (Fin p256)} {A : Pt} (hA : Pon A) (hP : Rep P A) : Rep (tms jadd pO n P k pO) (ml padd none n A) := by
  have h := tms_rep n hA hP k pO none trivial pO_rep
  rw [ag.tms_all hA hn] at h
  exact h
def isz {p : Nat} (P : P3 (Fin p)) : Bool := Nat.beq P.z.val 0
theorem isz_z {p : Nat} [NeZero p] {P : P3 (Fin p)} (h : isz P = true) : P.z = 0 := Fin.ext ((Nat.eq_of_beq_eq_true h).trans (Nat.zero_mod p).symm)
theorem rep_none {p : Nat} [NeZero p] {P : P3 (Fin p)} {A : Option (Fin p × Fin p)} (h : Rep P A) (hz : P.z = 0) : A = none := by
  cases A with
  | none => rfl
  | some a => exact (h.1 hz).elim
theorem qG3_z : isz (tms jadd pO q256 (pj pG) 256 pO) = true := by decide +kernel
theorem pG_rep : Rep (pj pG) pG := rep_pj fld_p256 b256 two_p256 noroot
theorem q256_lt : q256 < 2 ^ 256 := by decide +kernel
theorem qG_rep : Rep (tms jadd pO q256 (pj pG) 256 pO) (ml padd none q256 pG) := times_rep q256_lt pG_on pG_rep
theorem qG_z : (tms jadd pO q256 (pj pG) 256 pO).z = 0 := isz_z qG3_z
theorem qG : ml padd none q256 pG = none := rep_none qG_rep qG_z
end Kr
