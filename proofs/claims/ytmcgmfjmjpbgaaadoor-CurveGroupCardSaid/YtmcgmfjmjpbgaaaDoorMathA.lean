/- Part of the proof: MathA. -/
set_option linter.unusedVariables false
set_option linter.unusedSectionVars false
set_option maxRecDepth 100000
/- Polynomial identities checked at one point. -/
namespace Kr

/-- Nested dense polynomials: 'Poly k' has k variables, the last one outermost. -/
def Poly : Nat → Type
  | 0 => Int
  | k + 1 => List (Poly k)

def Poly.zero : (k : Nat) → Poly k
  | 0 => (0 : Int)
  | _ + 1 => ([] : List _)

def addL {α : Type} (f : α → α → α) : List α → List α → List α
  | [], q => q
  | a :: p, [] => a :: p
  | a :: p, b :: q => f a b :: addL f p q

def Poly.add : (k : Nat) → Poly k → Poly k → Poly k
  | 0, p, q => Int.add p q
  | k + 1, p, q => addL (Poly.add k) p q

def Poly.neg : (k : Nat) → Poly k → Poly k
  | 0, p => Int.neg p
  | k + 1, p => List.map (Poly.neg k) p

def mulL {α : Type} (z : α) (f g : α → α → α) : List α → List α → List α
  | [], _ => []
  | a :: p, q => addL g (q.map (f a)) (z :: mulL z f g p q)

def Poly.mul : (k : Nat) → Poly k → Poly k → Poly k
  | 0, p, q => Int.mul p q
  | k + 1, p, q => mulL (Poly.zero k) (Poly.mul k) (Poly.add k) p q

def evL {α : Type} (e : α → Int) (x : Int) : List α → Int
  | [] => 0
  | a :: p => e a + x * evL e x p

def Poly.ev (ρ : Nat → Int) : (k : Nat) → Poly k → Int
  | 0, p => p
  | k + 1, p => evL (Poly.ev ρ k) (ρ k) p

theorem evL_add {α : Type} (e : α → Int) (x : Int) (f : α → α → α) (h : ∀ a b, e (f a b) = e a + e b) : ∀ p q, evL e x (addL f p q) = evL e x p + evL e x q
  | [], q => by simp [addL, evL]
  | a :: p, [] => by simp [addL, evL]
  | a :: p, b :: q => by
    simp only [addL, evL, h, evL_add e x f h p q]
    grind

theorem Poly.ev_add (ρ : Nat → Int) : ∀ k p q, Poly.ev ρ k (Poly.add k p q) = Poly.ev ρ k p + Poly.ev ρ k q
  | 0, _, _ => rfl
  | k + 1, p, q => evL_add _ _ _ (Poly.ev_add ρ k) p q

theorem evL_neg {α : Type} (e : α → Int) (x : Int) (f : α → α) (h : ∀ a, e (f a) = - e a) : ∀ p, evL e x (p.map f) = - evL e x p
  | [] => by simp [evL]
  | a :: p => by
    simp only [List.map_cons, evL, h, evL_neg e x f h p]
    grind

theorem Poly.ev_neg (ρ : Nat → Int) : ∀ k p, Poly.ev ρ k (Poly.neg k p) = - Poly.ev ρ k p
  | 0, _ => rfl
  | k + 1, p => evL_neg _ _ _ (Poly.ev_neg ρ k) p

theorem evL_smul {α : Type} (e : α → Int) (x : Int) (f : α → α → α) (h : ∀ a b, e (f a b) = e a * e b) (a : α) : ∀ q, evL e x (q.map (f a)) = e a * evL e x q
  | [] => by simp [evL]
  | b :: q => by
    simp only [List.map_cons, evL, h, evL_smul e x f h a q]
    grind

theorem evL_mul {α : Type} (e : α → Int) (x : Int) (z : α) (f g : α → α → α) (hz : e z = 0) (h : ∀ a b, e (f a b) = e a * e b) (h' : ∀ a b, e (g a b) = e a + e b) :
    ∀ p q, evL e x (mulL z f g p q) = evL e x p * evL e x q
  | [], q => by simp [mulL, evL]
  | a :: p, q => by
    simp only [mulL, evL_add e x g h', evL, evL_smul e x f h, hz, evL_mul e x z f g hz h h' p q]
    grind

theorem Poly.ev_zero (ρ : Nat → Int) : ∀ k, Poly.ev ρ k (Poly.zero k) = 0
  | 0 => rfl
  | _ + 1 => rfl

theorem Poly.ev_mul (ρ : Nat → Int) : ∀ k p q, Poly.ev ρ k (Poly.mul k p q) = Poly.ev ρ k p * Poly.ev ρ k q
  | 0, _, _ => rfl
  | k + 1, p, q => evL_mul _ _ _ _ _ (Poly.ev_zero ρ k) (Poly.ev_mul ρ k) (Poly.ev_add ρ k) p q

/- the sum of the coefficients' absolute values -/
def nmL {α : Type} (n : α → Nat) : List α → Nat
  | [] => 0
  | a :: p => n a + nmL n p

def Poly.nm : (k : Nat) → Poly k → Nat
  | 0, p => Int.natAbs p
  | k + 1, p => nmL (Poly.nm k) p

theorem nmL_add {α : Type} (n : α → Nat) (f : α → α → α) (h : ∀ a b, n (f a b) ≤ n a + n b) : ∀ p q, nmL n (addL f p q) ≤ nmL n p + nmL n q
  | [], q => by simp [addL, nmL]
  | a :: p, [] => by simp [addL, nmL]
  | a :: p, b :: q => by
    have := h a b
    have := nmL_add n f h p q
    simp only [addL, nmL]
    omega

theorem Poly.nm_add : ∀ k p q, Poly.nm k (Poly.add k p q) ≤ Poly.nm k p + Poly.nm k q
  | 0, p, q => Int.natAbs_add_le p q
  | k + 1, p, q => nmL_add _ _ (Poly.nm_add k) p q

theorem nmL_map {α : Type} (n : α → Nat) (f : α → α) (h : ∀ a, n (f a) = n a) : ∀ p, nmL n (p.map f) = nmL n p
  | [] => rfl
  | a :: p => by simp only [List.map_cons, nmL, h, nmL_map n f h p]

theorem Poly.nm_neg : ∀ k p, Poly.nm k (Poly.neg k p) = Poly.nm k p
  | 0, p => Int.natAbs_neg p
  | k + 1, p => nmL_map _ _ (Poly.nm_neg k) p

theorem nmL_smul {α : Type} (n : α → Nat) (f : α → α → α) (h : ∀ a b, n (f a b) ≤ n a * n b) (a : α) : ∀ q, nmL n (q.map (f a)) ≤ n a * nmL n q
  | [] => by simp [nmL]
  | b :: q => by
    have := h a b
    have := nmL_smul n f h a q
    simp only [List.map_cons, nmL, Nat.mul_add]
    omega

theorem nmL_mul {α : Type} (n : α → Nat) (z : α) (f g : α → α → α) (hz : n z = 0) (h : ∀ a b, n (f a b) ≤ n a * n b) (h' : ∀ a b, n (g a b) ≤ n a + n b) :
    ∀ p q, nmL n (mulL z f g p q) ≤ nmL n p * nmL n q
  | [], q => by simp [mulL, nmL]
  | a :: p, q => by
    have h1 := nmL_add n g h' (q.map (f a)) (z :: mulL z f g p q)
    have h2 := nmL_smul n f h a q
    have h3 := nmL_mul n z f g hz h h' p q
    simp only [mulL, nmL, hz, Nat.add_mul] at *
    omega

theorem Poly.nm_zero : ∀ k, Poly.nm k (Poly.zero k) = 0
  | 0 => rfl
  | _ + 1 => rfl

theorem Poly.nm_mul : ∀ k p q, Poly.nm k (Poly.mul k p q) ≤ Poly.nm k p * Poly.nm k q
  | 0, p, q => Nat.le_of_eq (Int.natAbs_mul p q)
  | k + 1, p, q => nmL_mul _ _ _ _ (Poly.nm_zero k) (Poly.nm_mul k) (Poly.nm_add k) p q

/- how long the lists are, level by level -/
def Poly.bd (d : Nat → Nat) : (k : Nat) → Poly k → Prop
  | 0, _ => True
  | k + 1, p => List.length p ≤ d k + 1 ∧ ∀ c ∈ (show List (Poly k) from p), Poly.bd d k c

theorem addL_len {α : Type} (f : α → α → α) : ∀ p q, (addL f p q).length ≤ max p.length q.length
  | [], q => by simp [addL]
  | a :: p, [] => by simp [addL]
  | a :: p, b :: q => by
    have := addL_len f p q
    simp only [addL, List.length_cons]
    omega

theorem addL_all {α : Type} (f : α → α → α) (A B C : α → Prop) (ha : ∀ a, A a → C a) (hb : ∀ b, B b → C b) (h : ∀ a b, A a → B b → C (f a b)) :
    ∀ p q, (∀ a ∈ p, A a) → (∀ b ∈ q, B b) → ∀ c ∈ addL f p q, C c
  | [], q, _, hq => fun c hc => hb c (hq c (by simpa [addL] using hc))
  | a :: p, [], hp, _ => fun c hc => ha c (hp c (by simpa [addL] using hc))
  | a :: p, b :: q, hp, hq => by
    intro c hc
    simp only [addL, List.mem_cons] at hc
    rcases hc with rfl | hc
    · exact h _ _ (hp _ (by simp)) (hq _ (by simp))
    · exact addL_all f A B C ha hb h p q (fun a h => hp a (by simp [h])) (fun b h => hq b (by simp [h])) c hc

theorem Poly.bd_mono (d e : Nat → Nat) (h : ∀ i, d i ≤ e i) : ∀ k p, Poly.bd d k p → Poly.bd e k p
  | 0, _, _ => trivial
  | k + 1, _, hp => ⟨Nat.le_trans hp.1 (Nat.succ_le_succ (h k)), fun c hc => Poly.bd_mono d e h k c (hp.2 c hc)⟩

theorem Poly.bd_add (d e : Nat → Nat) : ∀ k p q, Poly.bd d k p → Poly.bd e k q → Poly.bd (fun i => max (d i) (e i)) k (Poly.add k p q)
  | 0, _, _, _, _ => trivial
  | k + 1, p, q, hp, hq => by
    refine ⟨Nat.le_trans (addL_len _ _ _) ?_, ?_⟩
    · have := hp.1
      have := hq.1
      show max _ _ ≤ max _ _ + 1
      omega
    · exact addL_all (Poly.add k) (Poly.bd d k) (Poly.bd e k) _ (fun a h => Poly.bd_mono _ _ (fun i => Nat.le_max_left _ _) k a h) (fun a h => Poly.bd_mono _ _ (fun i => Nat.le_max_right _ _) k a h)
        (fun a b ha hb => Poly.bd_add d e k a b ha hb) p q hp.2 hq.2

theorem Poly.bd_neg (d : Nat → Nat) : ∀ k p, Poly.bd d k p → Poly.bd d k (Poly.neg k p)
  | 0, _, _ => trivial
  | k + 1, p, hp => by
    refine ⟨Nat.le_trans (Nat.le_of_eq (List.length_map (as := (show List (Poly k) from p)) (Poly.neg k))) hp.1, ?_⟩
    intro c hc
    obtain ⟨a, ha, rfl⟩ := List.mem_map.1 hc
    exact Poly.bd_neg d k a (hp.2 a ha)

theorem Poly.bd_zero (d : Nat → Nat) : ∀ k, Poly.bd d k (Poly.zero k)
  | 0 => trivial
  | _ + 1 => ⟨Nat.zero_le _, fun _ h => by cases h⟩

theorem mulL_len {α : Type} (z : α) (f g : α → α → α) (n : Nat) (q : List α) (hq : q.length ≤ n + 1) : ∀ p, (mulL z f g p q).length ≤ p.length + n
  | [] => by simp [mulL]
  | a :: p => by
    have := mulL_len z f g n q hq p
    have := addL_len g (q.map (f a)) (z :: mulL z f g p q)
    simp only [mulL, List.length_cons, List.length_map] at *
    omega

theorem Poly.bd_mul (d e : Nat → Nat) : ∀ k p q, Poly.bd d k p → Poly.bd e k q → Poly.bd (fun i => d i + e i) k (Poly.mul k p q)
  | 0, _, _, _, _ => trivial
  | k + 1, p, q, hp, hq => by
    refine ⟨Nat.le_trans (mulL_len _ _ _ (e k) q hq.1 p) (by have := hp.1; show List.length p + e k ≤ d k + e k + 1; omega), ?_⟩
    have h2 := hp.2
    clear hp
    have hq2 := hq.2
    show ∀ c ∈ mulL (Poly.zero k) (Poly.mul k) (Poly.add k) p q, Poly.bd _ k c
    induction p with
    | nil => intro c hc; simp [mulL] at hc
    | cons a p ih =>
      simp only [mulL]
      refine addL_all (Poly.add k) (Poly.bd (fun i => d i + e i) k) (Poly.bd (fun i => d i + e i) k) _ (fun _ h => h) (fun _ h => h) ?_ _ _ ?_ ?_
      · intro a b ha hb
        exact Poly.bd_mono _ _ (fun i => by simp) k _ (Poly.bd_add _ _ k a b ha hb)
      · intro c hc
        obtain ⟨b, hb, rfl⟩ := List.mem_map.1 hc
        exact Poly.bd_mul d e k a b (h2 a (by simp)) (hq2 b hb)
      · intro c hc
        rcases List.mem_cons.1 hc with rfl | hc
        · exact Poly.bd_zero _ k
        · exact ih (fun c hc => h2 c (by simp [hc])) c hc

/- THE POINT: the k-th coordinate is greater than whatever the coefficients come to. -/
def wt (κ : Nat → Nat) (d : Nat → Nat) : Nat → Nat
  | 0 => 1
  | k + 1 => wt κ d k * κ k ^ (d k + 1)

theorem evL_le {α : Type} (e : α → Int) (n : α → Nat) (w x : Nat) (hx : 1 ≤ x) : ∀ (p : List α) (D : Nat), (∀ a ∈ p, (e a).natAbs ≤ n a * w) → p.length ≤ D →
    (evL e x p).natAbs ≤ nmL n p * (w * x ^ D)
  | [], _, _, _ => by simp [evL]
  | a :: p, 0, _, hl => by simp at hl
  | a :: p, D + 1, h, hl => by
    have ih := evL_le e n w x hx p D (fun a h' => h a (by simp [h'])) (by simpa using hl)
    have ha := h a (by simp)
    simp only [evL, nmL]
    have h1 : (e a + ↑x * evL e (↑x) p).natAbs ≤ (e a).natAbs + x * (evL e x p).natAbs := by
      have := Int.natAbs_add_le (e a) (↑x * evL e (↑x) p)
      rw [Int.natAbs_mul] at this
      simpa using this
    have h2 : x * (evL e x p).natAbs ≤ nmL n p * (w * x ^ (D + 1)) := by
      have := Nat.mul_le_mul_left x ih
      refine Nat.le_trans this (Nat.le_of_eq ?_)
      rw [Nat.pow_succ]
      grind
    have h3 : (e a).natAbs ≤ n a * (w * x ^ (D + 1)) := by
      refine Nat.le_trans ha (Nat.mul_le_mul_left _ ?_)
      exact Nat.le_mul_of_pos_right _ (Nat.pow_pos (by omega))
    rw [Nat.add_mul]
    omega

theorem Poly.ev_le (κ d : Nat → Nat) (hκ : ∀ k, 1 ≤ κ k) : ∀ k p, Poly.bd d k p → (Poly.ev (fun i => (κ i : Int)) k p).natAbs ≤ Poly.nm k p * wt κ d k
  | 0, p, _ => by simp [Poly.ev, Poly.nm, wt]
  | k + 1, p, hp => evL_le _ _ _ _ (hκ k) p (d k + 1) (fun a ha => Poly.ev_le κ d hκ k a (hp.2 a ha)) hp.1

theorem evL_zero {α : Type} (e : α → Int) (x : Nat) : ∀ (p : List α), (∀ a ∈ p, (e a).natAbs < x) → evL e x p = 0 → ∀ a ∈ p, e a = 0
  | [], _, _ => by simp
  | a :: p, h, h0 => by
    have ha := h a (by simp)
    simp only [evL] at h0
    have hd : (x : Int) ∣ e a := ⟨- evL e x p, by rw [Int.mul_neg]; omega⟩
    have e0 : e a = 0 := by
      refine Int.eq_zero_of_dvd_of_natAbs_lt_natAbs hd ?_
      simpa using ha
    have hx : (x : Int) ≠ 0 := by omega
    rw [e0] at h0
    have h1 : evL e x p = 0 := by
      rcases Int.mul_eq_zero.1 (show (x : Int) * evL e x p = 0 by omega) with h | h
      · exact absurd h hx
      · exact h
    intro b hb
    rcases List.mem_cons.1 hb with rfl | hb
    · exact e0
    · exact evL_zero e x p (fun a h' => h a (by simp [h'])) h1 b hb

theorem nmL_mem {α : Type} (n : α → Nat) : ∀ (p : List α) (a : α), a ∈ p → n a ≤ nmL n p
  | [], _, h => by simp at h
  | b :: p, a, h => by
    simp only [nmL]
    rcases List.mem_cons.1 h with rfl | h
    · omega
    · have := nmL_mem n p a h
      omega

theorem evL_all_zero {α : Type} (e : α → Int) (x : Int) : ∀ p : List α, (∀ a ∈ p, e a = 0) → evL e x p = 0
  | [], _ => rfl
  | a :: p, h => by simp [evL, h a (by simp), evL_all_zero e x p (fun b hb => h b (by simp [hb]))]

/-- A polynomial that is 0 at the point is 0 everywhere. -/
theorem Poly.zero_of_point (κ d : Nat → Nat) (N : Nat) (hκ : ∀ k, N * wt κ d k < κ k) : ∀ k p, Poly.bd d k p → Poly.nm k p ≤ N →
    Poly.ev (fun i => (κ i : Int)) k p = 0 → ∀ ρ, Poly.ev ρ k p = 0
  | 0, p, _, _, h, ρ => h
  | k + 1, p, hb, hn, h, ρ => by
    have h1 : ∀ k, 1 ≤ κ k := fun k => by have := hκ k; omega
    have hz := evL_zero (Poly.ev (fun i => (κ i : Int)) k) (κ k) p (fun a ha => by
      have := Poly.ev_le κ d h1 k a (hb.2 a ha)
      have h2 : Poly.nm k a ≤ N := Nat.le_trans (nmL_mem _ _ _ ha) hn
      have h3 := Nat.mul_le_mul_right (wt κ d k) h2
      have := hκ k
      omega) h
    refine evL_all_zero _ _ _ fun a ha => ?_
    exact Poly.zero_of_point κ d N hκ k a (hb.2 a ha) (Nat.le_trans (nmL_mem _ _ _ ha) hn) (hz a ha) ρ

/- ARITHMETIC, told as a record; a formula is a function of it. -/
structure Ops (α : Type) where
  add : α → α → α
  sub : α → α → α
  mul : α → α → α

def Ops.int : Ops Int := ⟨Int.add, Int.sub, Int.mul⟩
def Ops.poly (k : Nat) : Ops (Poly k) := ⟨Poly.add k, fun a b => Poly.add k a (Poly.neg k b), Poly.mul k⟩
/-- bounds: the norm, and the degrees -/
structure Bd where
  n : Nat
  d0 : Nat
  d1 : Nat
  d2 : Nat
  d3 : Nat
def Bd.add (a b : Bd) : Bd := ⟨a.n + b.n, max a.d0 b.d0, max a.d1 b.d1, max a.d2 b.d2, max a.d3 b.d3⟩
def Bd.zero : Bd := ⟨0, 0, 0, 0, 0⟩
def Bd.times (a b : Bd) : Bd := ⟨a.n * b.n, a.d0 + b.d0, a.d1 + b.d1, a.d2 + b.d2, a.d3 + b.d3⟩
def Bd.mul (a b : Bd) : Bd := bif Nat.beq (a.n * b.n) 0 then Bd.zero else a.times b
def Ops.bd : Ops Bd := ⟨Bd.add, Bd.add, Bd.mul⟩
def Bd.d (b : Bd) : Nat → Nat
  | 0 => b.d0
  | 1 => b.d1
  | 2 => b.d2
  | 3 => b.d3
  | _ => 0
/-- a square root is joined: u + v y with y y = f -/
def quad {α : Type} (O : Ops α) (f : α) : Ops (α × α) where
  add a b := (O.add a.1 b.1, O.add a.2 b.2)
  sub a b := (O.sub a.1 b.1, O.sub a.2 b.2)
  mul a b := (O.add (O.mul a.1 b.1) (O.mul f (O.mul a.2 b.2)), O.add (O.mul a.1 b.2) (O.mul a.2 b.1))

/-- a relation that the operations respect -/
structure Resp {α β : Type} (O : Ops α) (O' : Ops β) (R : α → β → Prop) : Prop where
  add : ∀ {a a' b b'}, R a a' → R b b' → R (O.add a b) (O'.add a' b')
  sub : ∀ {a a' b b'}, R a a' → R b b' → R (O.sub a b) (O'.sub a' b')
  mul : ∀ {a a' b b'}, R a a' → R b b' → R (O.mul a b) (O'.mul a' b')

def R2 {α β : Type} (R : α → β → Prop) (a : α × α) (b : β × β) : Prop := R a.1 b.1 ∧ R a.2 b.2

theorem quad_resp {α β : Type} {O : Ops α} {O' : Ops β} {R : α → β → Prop} (h : Resp O O' R) {f : α} {f' : β} (hf : R f f') : Resp (quad O f) (quad O' f') (R2 R) where
  add a b := ⟨h.add a.1 b.1, h.add a.2 b.2⟩
  sub a b := ⟨h.sub a.1 b.1, h.sub a.2 b.2⟩
  mul a b := ⟨h.add (h.mul a.1 b.1) (h.mul hf (h.mul a.2 b.2)), h.add (h.mul a.1 b.2) (h.mul a.2 b.1)⟩

theorem poly_int (ρ : Nat → Int) (k : Nat) : Resp (Ops.poly k) Ops.int (fun a z => Poly.ev ρ k a = z) where
  add := by rintro a _ b _ rfl rfl; exact Poly.ev_add ρ k a b
  sub := by
    rintro a _ b _ rfl rfl
    show Poly.ev ρ k (Poly.add k a (Poly.neg k b)) = _ - _
    rw [Poly.ev_add, Poly.ev_neg]
    omega
  mul := by rintro a _ b _ rfl rfl; exact Poly.ev_mul ρ k a b

/-- the same modulo p -/
theorem poly_mod (p : Int) (ρ : Nat → Int) (k : Nat) : Resp (Ops.poly k) Ops.int (fun a z => p ∣ z - Poly.ev ρ k a) where
  add := by
    rintro a x b y ⟨s, hs⟩ ⟨t, ht⟩
    show p ∣ (x + y) - Poly.ev ρ k (Poly.add k a b)
    rw [Poly.ev_add]
    exact ⟨s + t, by grind⟩
  sub := by
    rintro a x b y ⟨s, hs⟩ ⟨t, ht⟩
    show p ∣ (x - y) - Poly.ev ρ k (Poly.add k a (Poly.neg k b))
    rw [Poly.ev_add, Poly.ev_neg]
    exact ⟨s - t, by grind⟩
  mul := by
    rintro a x b y ⟨s, hs⟩ ⟨t, ht⟩
    show p ∣ (x * y) - Poly.ev ρ k (Poly.mul k a b)
    rw [Poly.ev_mul]
    exact ⟨s * y + Poly.ev ρ k a * t, by grind⟩

/-- a pair stands for u + v y, modulo p -/
def Rq {α : Type} (p y : Int) (R : α → Int → Prop) (a : α × α) (z : Int) : Prop := ∃ u v, R a.1 u ∧ R a.2 v ∧ p ∣ z - (u + v * y)

theorem quad_val {α : Type} {O : Ops α} {R : α → Int → Prop} (h : Resp O Ops.int R) {p y F : Int} {f : α} (hf : R f F) (hy : p ∣ y * y - F) : Resp (quad O f) Ops.int (Rq p y R) where
  add := by
    rintro a x b z ⟨u, v, hu, hv, s, hs⟩ ⟨u', v', hu', hv', t, ht⟩
    refine ⟨u + u', v + v', h.add hu hu', h.add hv hv', s + t, ?_⟩
    show (x + z) - _ = _
    grind
  sub := by
    rintro a x b z ⟨u, v, hu, hv, s, hs⟩ ⟨u', v', hu', hv', t, ht⟩
    refine ⟨u - u', v - v', h.sub hu hu', h.sub hv hv', s - t, ?_⟩
    show (x - z) - _ = _
    grind
  mul := by
    rintro a x b z ⟨u, v, hu, hv, s, hs⟩ ⟨u', v', hu', hv', t, ht⟩
    obtain ⟨r, hr⟩ := hy
    refine ⟨u * u' + F * (v * v'), u * v' + v * u', h.add (h.mul hu hu') (h.mul hf (h.mul hv hv')), h.add (h.mul hu hv') (h.mul hv hu'), s * z + (u + v * y) * t + v * v' * r, ?_⟩
    show (x * z) - _ = _
    grind

/-- 'some polynomial of the same values has these bounds' -/
def Rb (k : Nat) (p : Poly k) (b : Bd) : Prop := ∃ q : Poly k, (∀ ρ, Poly.ev ρ k q = Poly.ev ρ k p) ∧ Poly.nm k q ≤ b.n ∧ Poly.bd b.d k q

theorem Bd.d_add (a b : Bd) : ∀ i, max (a.d i) (b.d i) ≤ (a.add b).d i
  | 0 | 1 | 2 | 3 => Nat.le_refl _
  | _ + 4 => Nat.le_refl _
theorem Bd.d_times (a b : Bd) : ∀ i, a.d i + b.d i ≤ (a.times b).d i
  | 0 | 1 | 2 | 3 => Nat.le_refl _
  | _ + 4 => Nat.le_refl _

theorem evL_nm0 {α : Type} (e : α → Int) (n : α → Nat) (x : Int) (h : ∀ a, n a = 0 → e a = 0) : ∀ p, nmL n p = 0 → evL e x p = 0
  | [], _ => rfl
  | a :: p, h0 => by
    simp only [nmL] at h0
    simp [evL, h a (by omega), evL_nm0 e n x h p (by omega)]
theorem Poly.ev_nm0 (ρ : Nat → Int) : ∀ k p, Poly.nm k p = 0 → Poly.ev ρ k p = 0
  | 0, _, h => Int.natAbs_eq_zero.1 h
  | k + 1, p, h => evL_nm0 _ _ _ (Poly.ev_nm0 ρ k) p h

theorem poly_bd (k : Nat) : Resp (Ops.poly k) Ops.bd (Rb k) where
  add := by
    rintro p a q b ⟨p', e1, h1, h2⟩ ⟨q', e2, h3, h4⟩
    refine ⟨Poly.add k p' q', fun ρ => ?_, Nat.le_trans (Poly.nm_add k p' q') (Nat.add_le_add h1 h3), Poly.bd_mono _ _ (Bd.d_add a b) k _ (Poly.bd_add _ _ k p' q' h2 h4)⟩
    show _ = Poly.ev ρ k (Poly.add k p q)
    rw [Poly.ev_add, Poly.ev_add, e1, e2]
  sub := by
    rintro p a q b ⟨p', e1, h1, h2⟩ ⟨q', e2, h3, h4⟩
    refine ⟨Poly.add k p' (Poly.neg k q'), fun ρ => ?_, Nat.le_trans (Poly.nm_add k p' _) ?_, Poly.bd_mono _ _ (Bd.d_add a b) k _ (Poly.bd_add _ _ k p' _ h2 (Poly.bd_neg _ k q' h4))⟩
    · show _ = Poly.ev ρ k (Poly.add k p (Poly.neg k q))
      rw [Poly.ev_add, Poly.ev_add, Poly.ev_neg, Poly.ev_neg, e1, e2]
    · rw [Poly.nm_neg]
      exact Nat.add_le_add h1 h3
  mul := by
    rintro p a q b ⟨p', e1, h1, h2⟩ ⟨q', e2, h3, h4⟩
    have hv : ∀ ρ, Poly.ev ρ k (Poly.mul k p' q') = Poly.ev ρ k (Poly.mul k p q) := fun ρ => by rw [Poly.ev_mul, Poly.ev_mul, e1, e2]
    show Rb k (Poly.mul k p q) (a.mul b)
    by_cases hn : a.n * b.n = 0
    · have : a.mul b = Bd.zero := by unfold Bd.mul; rw [hn]; rfl
      rw [this]
      refine ⟨Poly.zero k, fun ρ => ?_, Nat.le_of_eq (Poly.nm_zero k), Poly.bd_zero _ _⟩
      rw [Poly.ev_zero, ← hv]
      refine (Poly.ev_nm0 ρ k _ ?_).symm
      have := Poly.nm_mul k p' q'
      have := Nat.mul_le_mul h1 h3
      omega
    · have : a.mul b = a.times b := by
        unfold Bd.mul
        rw [show Nat.beq (a.n * b.n) 0 = false from Bool.eq_false_iff.2 (fun h => hn (Nat.eq_of_beq_eq_true h))]
        rfl
      rw [this]
      exact ⟨Poly.mul k p' q', hv, Nat.le_trans (Poly.nm_mul k p' q') (Nat.mul_le_mul h1 h3), Poly.bd_mono _ _ (Bd.d_times a b) k _ (Poly.bd_mul _ _ k p' q' h2 h4)⟩

/- the variables -/
def Poly.const : (k : Nat) → Int → Poly k
  | 0, c => c
  | k + 1, c => [Poly.const k c]
def Poly.var : (k : Nat) → Nat → Poly k
  | 0, _ => (0 : Int)
  | k + 1, i => if i = k then [Poly.zero k, Poly.const k 1] else [Poly.var k i]
theorem Poly.ev_const (ρ : Nat → Int) : ∀ k c, Poly.ev ρ k (Poly.const k c) = c
  | 0, _ => rfl
  | k + 1, c => by
    show evL (Poly.ev ρ k) (ρ k) [Poly.const k c] = c
    simp [evL, Poly.ev_const ρ k c]
theorem Poly.ev_var (ρ : Nat → Int) : ∀ k i, i < k → Poly.ev ρ k (Poly.var k i) = ρ i
  | 0, _, h => by omega
  | k + 1, i, h => by
    by_cases e : i = k
    · subst e
      have : Poly.var (i + 1) i = [Poly.zero i, Poly.const i 1] := if_pos rfl
      rw [this]
      show evL (Poly.ev ρ i) (ρ i) [Poly.zero i, Poly.const i 1] = ρ i
      simp [evL, Poly.ev_zero, Poly.ev_const]
    · have : Poly.var (k + 1) i = [Poly.var k i] := if_neg e
      rw [this]
      show evL (Poly.ev ρ k) (ρ k) [Poly.var k i] = ρ i
      simp [evL, Poly.ev_var ρ k i (by omega)]

/- the point: powers of two -/
def wb (nb : Nat) (d : Nat → Nat) : Nat → Nat
  | 0 => 0
  | k + 1 => wb nb d k + (nb + wb nb d k) * (d k + 1)
def kp (nb : Nat) (d : Nat → Nat) (k : Nat) : Nat := 2 ^ (nb + wb nb d k)
theorem wt_kp (nb : Nat) (d : Nat → Nat) : ∀ k, wt (kp nb d) d k = 2 ^ wb nb d k
  | 0 => rfl
  | k + 1 => by
    simp only [wt, wb, wt_kp nb d k, kp, Nat.pow_add, Nat.pow_mul]
theorem kp_good {N nb : Nat} (d : Nat → Nat) (h : N < 2 ^ nb) (k : Nat) : N * wt (kp nb d) d k < kp nb d k := by
  rw [wt_kp, kp, Nat.pow_add]
  exact Nat.mul_lt_mul_of_pos_right h (Nat.pow_pos (by omega))

/-- one polynomial that is 0 at the point, its bounds in order -/
theorem zero_at {k nb : Nat} {p : Poly k} {b B : Bd} (hb : Rb k p b) (hn : b.n ≤ B.n) (hd : ∀ i, b.d i ≤ B.d i) (hB : B.n < 2 ^ nb)
    (h : Poly.ev (fun i => (kp nb B.d i : Int)) k p = 0) (ρ : Nat → Int) : Poly.ev ρ k p = 0 := by
  obtain ⟨q, e, h1, h2⟩ := hb
  rw [← e]
  exact Poly.zero_of_point (kp nb B.d) B.d B.n (kp_good B.d hB) k q (Poly.bd_mono _ _ hd k q h2) (Nat.le_trans h1 hn) (by rw [e]; exact h) ρ

/- THE TOWER: three points of one curve y y = f(x), with one more constant c -/
structure Base (α : Type) where
  O : Ops α
  zero : α
  one : α
  c : α
  x1 : α
  x2 : α
  x3 : α
def Fm : Type 1 := {α : Type} → Ops α → α → α → α → α
structure BaseR {α β : Type} (R : α → β → Prop) (B : Base α) (B' : Base β) : Prop where
  O : Resp B.O B'.O R
  zero : R B.zero B'.zero
  one : R B.one B'.one
  c : R B.c B'.c
  x1 : R B.x1 B'.x1
  x2 : R B.x2 B'.x2
  x3 : R B.x3 B'.x3
abbrev T3 (α : Type) : Type := ((α × α) × (α × α)) × ((α × α) × (α × α))
section
variable {α : Type} (f : Fm) (B : Base α)
def Base.e1 (a : α) : α × α := (a, B.zero)
def Base.e2 (a : α × α) : (α × α) × (α × α) := (a, B.e1 B.zero)
def Base.e3 (a : (α × α) × (α × α)) : T3 α := (a, B.e2 (B.e1 B.zero))
def Base.O1 : Ops (α × α) := quad B.O (f B.O B.one B.c B.x1)
def Base.O2 : Ops ((α × α) × (α × α)) := quad (B.O1 f) (B.e1 (f B.O B.one B.c B.x2))
def Base.O3 : Ops (T3 α) := quad (B.O2 f) (B.e2 (B.e1 (f B.O B.one B.c B.x3)))
def Base.in_ (a : α) : T3 α := B.e3 (B.e2 (B.e1 a))
def Base.y1 : T3 α := B.e3 (B.e2 (B.zero, B.one))
def Base.y2 : T3 α := B.e3 (B.e1 B.zero, B.e1 B.one)
def Base.y3 : T3 α := (B.e2 (B.e1 B.zero), B.e2 (B.e1 B.one))
end
structure Ins (α : Type) where
  zero : α
  one : α
  c : α
  x1 : α
  y1 : α
  x2 : α
  y2 : α
  x3 : α
  y3 : α
structure InsR {α β : Type} (R : α → β → Prop) (I : Ins α) (J : Ins β) : Prop where
  zero : R I.zero J.zero
  one : R I.one J.one
  c : R I.c J.c
  x1 : R I.x1 J.x1
  y1 : R I.y1 J.y1
  x2 : R I.x2 J.x2
  y2 : R I.y2 J.y2
  x3 : R I.x3 J.x3
  y3 : R I.y3 J.y3
def Base.ins {α : Type} (B : Base α) : Ins (T3 α) := ⟨B.in_ B.zero, B.in_ B.one, B.in_ B.c, B.in_ B.x1, B.y1, B.in_ B.x2, B.y2, B.in_ B.x3, B.y3⟩
/-- a formula of three points, and that it goes with every relation -/
def Gm : Type 1 := {α : Type} → Ops α → Ins α → α
def Fm.Good (f : Fm) : Prop := ∀ {α β : Type} (O : Ops α) (O' : Ops β) (R : α → β → Prop), Resp O O' R → ∀ {a a' b b' c c'}, R a a' → R b b' → R c c' → R (f O a b c) (f O' a' b' c')
def Gm.Good (g : Gm) : Prop := ∀ {α β : Type} (O : Ops α) (O' : Ops β) (R : α → β → Prop), Resp O O' R → ∀ {I J}, InsR R I J → R (g O I) (g O' J)

theorem tower_resp {f : Fm} (hf : f.Good) {α β : Type} {R : α → β → Prop} {B : Base α} {B' : Base β} (h : BaseR R B B') : Resp (B.O3 f) (B'.O3 f) (R2 (R2 (R2 R))) :=
  quad_resp (quad_resp (quad_resp h.O (hf _ _ R h.O h.one h.c h.x1)) ⟨hf _ _ R h.O h.one h.c h.x2, h.zero⟩) ⟨⟨hf _ _ R h.O h.one h.c h.x3, h.zero⟩, ⟨h.zero, h.zero⟩⟩
theorem tower_ins {α β : Type} {R : α → β → Prop} {B : Base α} {B' : Base β} (h : BaseR R B B') : InsR (R2 (R2 (R2 R))) B.ins B'.ins := by
  have z2 : R2 R (B.e1 B.zero) (B'.e1 B'.zero) := ⟨h.zero, h.zero⟩
  have z3 : R2 (R2 R) (B.e2 (B.e1 B.zero)) (B'.e2 (B'.e1 B'.zero)) := ⟨z2, z2⟩
  exact ⟨⟨⟨⟨h.zero, h.zero⟩, z2⟩, z3⟩, ⟨⟨⟨h.one, h.zero⟩, z2⟩, z3⟩, ⟨⟨⟨h.c, h.zero⟩, z2⟩, z3⟩, ⟨⟨⟨h.x1, h.zero⟩, z2⟩, z3⟩, ⟨⟨⟨h.zero, h.one⟩, z2⟩, z3⟩, ⟨⟨⟨h.x2, h.zero⟩, z2⟩, z3⟩,
    ⟨⟨z2, ⟨h.one, h.zero⟩⟩, z3⟩, ⟨⟨⟨h.x3, h.zero⟩, z2⟩, z3⟩, ⟨z3, ⟨⟨h.one, h.zero⟩, z2⟩⟩⟩

/-- the values, modulo p -/
def Rm (p : Int) (ρ : Nat → Int) (k : Nat) (a : Poly k) (z : Int) : Prop := p ∣ z - Poly.ev ρ k a

def polyBase : Base (Poly 4) := ⟨Ops.poly 4, Poly.const 4 0, Poly.const 4 1, Poly.var 4 0, Poly.var 4 1, Poly.var 4 2, Poly.var 4 3⟩
def intBase (c x1 x2 x3 : Int) : Base Int := ⟨Ops.int, 0, 1, c, x1, x2, x3⟩
def bdBase : Base Bd := ⟨Ops.bd, ⟨0, 0, 0, 0, 0⟩, ⟨1, 0, 0, 0, 0⟩, ⟨1, 1, 0, 0, 0⟩, ⟨1, 0, 1, 0, 0⟩, ⟨1, 0, 0, 1, 0⟩, ⟨1, 0, 0, 0, 1⟩⟩
def asg (c x1 x2 x3 : Int) : Nat → Int
  | 0 => c
  | 1 => x1
  | 2 => x2
  | 3 => x3
  | _ => 0
theorem base_mod (p c x1 x2 x3 : Int) : BaseR (Rm p (asg c x1 x2 x3) 4) polyBase (intBase c x1 x2 x3) where
  O := poly_mod p _ 4
  zero := ⟨0, by rw [show Poly.ev _ 4 polyBase.zero = 0 from Poly.ev_const _ 4 0]; show (0 : Int) - 0 = _; omega⟩
  one := ⟨0, by rw [show Poly.ev _ 4 polyBase.one = 1 from Poly.ev_const _ 4 1]; show (1 : Int) - 1 = _; omega⟩
  c := ⟨0, by rw [show Poly.ev _ 4 polyBase.c = c from Poly.ev_var _ 4 0 (by omega)]; show c - c = _; omega⟩
  x1 := ⟨0, by rw [show Poly.ev _ 4 polyBase.x1 = x1 from Poly.ev_var _ 4 1 (by omega)]; show x1 - x1 = _; omega⟩
  x2 := ⟨0, by rw [show Poly.ev _ 4 polyBase.x2 = x2 from Poly.ev_var _ 4 2 (by omega)]; show x2 - x2 = _; omega⟩
  x3 := ⟨0, by rw [show Poly.ev _ 4 polyBase.x3 = x3 from Poly.ev_var _ 4 3 (by omega)]; show x3 - x3 = _; omega⟩
theorem base_int (ρ : Nat → Int) : BaseR (fun a z => Poly.ev ρ 4 a = z) polyBase (intBase (ρ 0) (ρ 1) (ρ 2) (ρ 3)) where
  O := poly_int ρ 4
  zero := Poly.ev_const _ 4 0
  one := Poly.ev_const _ 4 1
  c := Poly.ev_var _ 4 0 (by omega)
  x1 := Poly.ev_var _ 4 1 (by omega)
  x2 := Poly.ev_var _ 4 2 (by omega)
  x3 := Poly.ev_var _ 4 3 (by omega)
theorem bd_cons0 {d : Nat → Nat} {k : Nat} (a : Poly k) (h : Poly.bd d k a) : Poly.bd d (k + 1) (show List (Poly k) from [a]) :=
  ⟨by show 1 ≤ d k + 1; omega, fun c hc => by rw [List.mem_singleton.1 hc]; exact h⟩
theorem bd_const (d : Nat → Nat) (c : Int) : ∀ k, Poly.bd d k (Poly.const k c)
  | 0 => trivial
  | k + 1 => bd_cons0 _ (bd_const d c k)
theorem bd_var (d : Nat → Nat) : ∀ k i, i < k → 1 ≤ d i → Poly.bd d k (Poly.var k i)
  | 0, _, h, _ => by omega
  | k + 1, i, h, hd => by
    by_cases e : i = k
    · subst e
      have : Poly.var (i + 1) i = [Poly.zero i, Poly.const i 1] := if_pos rfl
      rw [this]
      refine ⟨by show 2 ≤ d i + 1; omega, fun c hc => ?_⟩
      rcases List.mem_cons.1 hc with rfl | hc
      · exact Poly.bd_zero _ _
      · rw [List.mem_singleton.1 hc]
        exact bd_const _ _ _
    · have : Poly.var (k + 1) i = [Poly.var k i] := if_neg e
      rw [this]
      exact bd_cons0 _ (bd_var d k i (by omega) hd)
theorem base_bd : BaseR (Rb 4) polyBase bdBase where
  O := poly_bd 4
  zero := ⟨_, fun _ => rfl, by decide, bd_const _ _ _⟩
  one := ⟨_, fun _ => rfl, by decide, bd_const _ _ _⟩
  c := ⟨_, fun _ => rfl, by decide, bd_var _ 4 0 (by decide) (Nat.le_refl 1)⟩
  x1 := ⟨_, fun _ => rfl, by decide, bd_var _ 4 1 (by decide) (Nat.le_refl 1)⟩
  x2 := ⟨_, fun _ => rfl, by decide, bd_var _ 4 2 (by decide) (Nat.le_refl 1)⟩
  x3 := ⟨_, fun _ => rfl, by decide, bd_var _ 4 3 (by decide) (Nat.le_refl 1)⟩

def T3.all {α : Type} (q : α → Bool) (a : T3 α) : Bool := (q a.1.1.1 && q a.1.1.2) && (q a.1.2.1 && q a.1.2.2) && ((q a.2.1.1 && q a.2.1.2) && (q a.2.2.1 && q a.2.2.2))
def Bd.le (a b : Bd) : Bool := Nat.ble a.n b.n && Nat.ble a.d0 b.d0 && Nat.ble a.d1 b.d1 && Nat.ble a.d2 b.d2 && Nat.ble a.d3 b.d3
theorem Bd.le_d {a b : Bd} (h : a.le b = true) : a.n ≤ b.n ∧ ∀ i, a.d i ≤ b.d i := by
  simp only [Bd.le, Bool.and_eq_true, Nat.ble_eq] at h
  obtain ⟨⟨⟨⟨h0, h1⟩, h2⟩, h3⟩, h4⟩ := h
  refine ⟨h0, fun i => ?_⟩
  match i with
  | 0 => exact h1
  | 1 => exact h2
  | 2 => exact h3
  | 3 => exact h4
  | _ + 4 => exact Nat.le_refl _
def pointBase (nb : Nat) (B : Bd) : Base Int := intBase (kp nb B.d 0 : Nat) (kp nb B.d 1 : Nat) (kp nb B.d 2 : Nat) (kp nb B.d 3 : Nat)

theorem tower_sum {p y1 y2 y3 z s t s1 s2 t1 t2 e11 e12 e21 e22 f11 f12 f21 f22 : Int} (h1 : p ∣ e11) (h2 : p ∣ e12) (h3 : p ∣ s1 - (e11 + e12 * y1)) (h4 : p ∣ e21) (h5 : p ∣ e22) (h6 : p ∣ s2 - (e21 + e22 * y1))
    (h7 : p ∣ s - (s1 + s2 * y2)) (h8 : p ∣ f11) (h9 : p ∣ f12) (h10 : p ∣ t1 - (f11 + f12 * y1)) (h11 : p ∣ f21) (h12 : p ∣ f22) (h13 : p ∣ t2 - (f21 + f22 * y1)) (h14 : p ∣ t - (t1 + t2 * y2)) (h15 : p ∣ z - (s + t * y3)) : p ∣ z := by
  have a : ∀ {u v w y : Int}, p ∣ u → p ∣ v → p ∣ w - (u + v * y) → p ∣ w := fun {u v w y} h h' h'' => by
    have := Int.dvd_add h'' (Int.dvd_add h (Int.dvd_trans h' (Int.dvd_mul_right v y)))
    rwa [show w - (u + v * y) + (u + v * y) = w by omega] at this
  exact a (a (a h1 h2 h3) (a h4 h5 h6) h7) (a (a h8 h9 h10) (a h11 h12 h13) h14) h15

/-- THE CHECK -/
theorem tower_zero (f : Fm) (hf : f.Good) (g : Gm) (hg : g.Good) (nb : Nat) (B : Bd) (hB : B.n < 2 ^ nb)
    (hb : T3.all (fun a => a.le B) (g (bdBase.O3 f) bdBase.ins) = true)
    (hz : T3.all (fun z => z == 0) (g ((pointBase nb B).O3 f) (pointBase nb B).ins) = true)
    (p c x1 y1 x2 y2 x3 y3 : Int) (h1 : p ∣ y1 * y1 - f Ops.int 1 c x1) (h2 : p ∣ y2 * y2 - f Ops.int 1 c x2) (h3 : p ∣ y3 * y3 - f Ops.int 1 c x3) :
    p ∣ g Ops.int ⟨0, 1, c, x1, y1, x2, y2, x3, y3⟩ := by
  -- the polynomials themselves
  generalize hV : g (polyBase.O3 f) polyBase.ins = V
  have rb : R2 (R2 (R2 (Rb 4))) V (g (bdBase.O3 f) bdBase.ins) := hV ▸ hg _ _ _ (tower_resp hf base_bd) (tower_ins base_bd)
  have rz : R2 (R2 (R2 (fun a z => Poly.ev (fun i => (kp nb B.d i : Int)) 4 a = z))) V (g ((pointBase nb B).O3 f) (pointBase nb B).ins) :=
    hV ▸ hg _ _ _ (tower_resp hf (base_int (fun i => (kp nb B.d i : Int)))) (tower_ins (base_int _))
  simp only [T3.all, Bool.and_eq_true] at hb hz
  have key : ∀ {q : Poly 4} {b : Bd} {z : Int}, Rb 4 q b → b.le B = true → Poly.ev (fun i => (kp nb B.d i : Int)) 4 q = z → (z == 0) = true → ∀ ρ, Poly.ev ρ 4 q = 0 := by
    intro q b z h1 h2 h3 h4 ρ
    have h2 := Bd.le_d h2
    exact zero_at h1 h2.1 h2.2 hB (by rw [h3]; simpa using h4) ρ
  have k111 := key rb.1.1.1 hb.1.1.1 rz.1.1.1 hz.1.1.1
  have k112 := key rb.1.1.2 hb.1.1.2 rz.1.1.2 hz.1.1.2
  have k121 := key rb.1.2.1 hb.1.2.1 rz.1.2.1 hz.1.2.1
  have k122 := key rb.1.2.2 hb.1.2.2 rz.1.2.2 hz.1.2.2
  have k211 := key rb.2.1.1 hb.2.1.1 rz.2.1.1 hz.2.1.1
  have k212 := key rb.2.1.2 hb.2.1.2 rz.2.1.2 hz.2.1.2
  have k221 := key rb.2.2.1 hb.2.2.1 rz.2.2.1 hz.2.2.1
  have k222 := key rb.2.2.2 hb.2.2.2 rz.2.2.2 hz.2.2.2
  -- what they come to at the points
  have bm := base_mod p c x1 x2 x3
  have q1 := hf _ _ _ bm.O bm.one bm.c bm.x1
  have q2 := hf _ _ _ bm.O bm.one bm.c bm.x2
  have q3 := hf _ _ _ bm.O bm.one bm.c bm.x3
  have R1 := quad_val (R := Rm p (asg c x1 x2 x3) 4) bm.O q1 h1
  have u1 : ∀ {a : Poly 4} {z : Int}, Rm p (asg c x1 x2 x3) 4 a z → Rq p y1 (Rm p (asg c x1 x2 x3) 4) (polyBase.e1 a) z :=
    fun {a z} h => ⟨z, 0, h, bm.zero, ⟨0, by omega⟩⟩
  have R2' := quad_val R1 (u1 q2) h2
  have z1 := u1 bm.zero
  have u2 : ∀ {a : Poly 4 × Poly 4} {z : Int}, Rq p y1 (Rm p (asg c x1 x2 x3) 4) a z → Rq p y2 (Rq p y1 (Rm p (asg c x1 x2 x3) 4)) (polyBase.e2 a) z :=
    fun {a z} h => ⟨z, 0, h, z1, ⟨0, by omega⟩⟩
  have R3 := quad_val R2' (u2 (u1 q3)) h3
  have z2 := u2 z1
  have u3 : ∀ {a : (Poly 4 × Poly 4) × (Poly 4 × Poly 4)} {z : Int}, Rq p y2 (Rq p y1 (Rm p (asg c x1 x2 x3) 4)) a z → Rq p y3 (Rq p y2 (Rq p y1 (Rm p (asg c x1 x2 x3) 4))) (polyBase.e3 a) z :=
    fun {a z} h => ⟨z, 0, h, z2, ⟨0, by omega⟩⟩
  have hI : InsR (Rq p y3 (Rq p y2 (Rq p y1 (Rm p (asg c x1 x2 x3) 4)))) polyBase.ins ⟨0, 1, c, x1, y1, x2, y2, x3, y3⟩ :=
    ⟨u3 (u2 (u1 bm.zero)), u3 (u2 (u1 bm.one)), u3 (u2 (u1 bm.c)), u3 (u2 (u1 bm.x1)), u3 (u2 ⟨0, 1, bm.zero, bm.one, ⟨0, by show y1 - _ = _; omega⟩⟩),
      u3 (u2 (u1 bm.x2)), u3 ⟨0, 1, z1, u1 bm.one, ⟨0, by show y2 - _ = _; omega⟩⟩, u3 (u2 (u1 bm.x3)), ⟨0, 1, z2, u2 (u1 bm.one), ⟨0, by show y3 - _ = _; omega⟩⟩⟩
  have fin := hg _ _ _ R3 hI
  obtain ⟨s, t, ⟨s1, s2, ⟨s11, s12, e11, e12, d1⟩, ⟨s21, s22, e21, e22, d2⟩, d3⟩, ⟨t1, t2, ⟨t11, t12, f11, f12, d4⟩, ⟨t21, t22, f21, f22, d5⟩, d6⟩, d7⟩ := hV ▸ fin
  simp only [Rm, k111, k112, k121, k122, k211, k212, k221, k222, Int.sub_zero] at e11 e12 e21 e22 f11 f12 f21 f22
  exact tower_sum e11 e12 d1 e21 e22 d2 d3 f11 f12 d4 f21 f22 d5 d6 d7

/- THE SAME AMONG THE NUMBERS MODULO p -/
def Ops.fin (p : Nat) [NeZero p] : Ops (Fin p) := ⟨fun a b => a + b, fun a b => a - b, fun a b => a * b⟩
def Rf (p : Nat) (z : Int) (a : Fin p) : Prop := (p : Int) ∣ z - (a.val : Int)
theorem rf_of_mod {p : Nat} {z : Int} {n : Nat} {a : Fin p} (h : a.val = n % p) (hz : (p : Int) ∣ z - n) : Rf p z a := by
  have e : (n : Int) = p * (n / p : Nat) + (n % p : Nat) := by
    have := Nat.div_add_mod n p
    exact_mod_cast this.symm
  obtain ⟨k, hk⟩ := hz
  refine ⟨k + (n / p : Nat), ?_⟩
  rw [h]
  grind
theorem int_fin (p : Nat) [NeZero p] : Resp Ops.int (Ops.fin p) (Rf p) where
  add := by
    rintro x a y b ⟨s, hs⟩ ⟨t, ht⟩
    refine rf_of_mod (Fin.val_add a b) ⟨s + t, ?_⟩
    show x + y - _ = _
    push_cast
    grind
  sub := by
    rintro x a y b ⟨s, hs⟩ ⟨t, ht⟩
    refine rf_of_mod (n := p - b.val + a.val) (by show (a - b).val = _; rw [Fin.sub_def]) ⟨s - t - 1, ?_⟩
    show x - y - _ = _
    have := b.isLt
    have e : ((p - b.val + a.val : Nat) : Int) = p - b.val + a.val := by omega
    rw [e]
    grind
  mul := by
    rintro x a y b ⟨s, hs⟩ ⟨t, ht⟩
    refine rf_of_mod (Fin.val_mul a b) ⟨s * y + a.val * t, ?_⟩
    show x * y - _ = _
    push_cast
    grind
theorem rf_val {p : Nat} (a : Fin p) : Rf p a.val a := ⟨0, by omega⟩
theorem fin_zero {p : Nat} [NeZero p] {z : Int} {a : Fin p} (h : Rf p z a) (hz : (p : Int) ∣ z) : a = 0 := by
  obtain ⟨s, hs⟩ := h
  obtain ⟨t, ht⟩ := hz
  have hd : p ∣ a.val := by
    have : (p : Int) ∣ (a.val : Int) := ⟨t - s, by grind⟩
    exact_mod_cast this
  have := a.isLt
  apply Fin.ext
  show a.val = 0 % p
  rw [Nat.zero_mod]
  exact Nat.eq_zero_of_dvd_of_lt hd this

theorem tower_fin (f : Fm) (hf : f.Good) (g : Gm) (hg : g.Good) (nb : Nat) (B : Bd) (hB : B.n < 2 ^ nb)
    (hb : T3.all (fun a => a.le B) (g (bdBase.O3 f) bdBase.ins) = true)
    (hz : T3.all (fun z => z == 0) (g ((pointBase nb B).O3 f) (pointBase nb B).ins) = true)
    {p : Nat} [NeZero p] (c x1 y1 x2 y2 x3 y3 : Fin p) (h1 : y1 * y1 = f (Ops.fin p) 1 c x1) (h2 : y2 * y2 = f (Ops.fin p) 1 c x2) (h3 : y3 * y3 = f (Ops.fin p) 1 c x3) :
    g (Ops.fin p) ⟨0, 1, c, x1, y1, x2, y2, x3, y3⟩ = 0 := by
  have R := int_fin p
  have one : Rf p 1 (1 : Fin p) := rf_of_mod (n := 1) rfl ⟨0, by omega⟩
  have zero : Rf p 0 (0 : Fin p) := rf_of_mod (n := 0) rfl ⟨0, by omega⟩
  have hy : ∀ (x y : Fin p), y * y = f (Ops.fin p) 1 c x → (p : Int) ∣ (y.val : Int) * y.val - f Ops.int 1 c.val x.val := by
    intro x y h
    obtain ⟨s, hs⟩ := R.mul (rf_val y) (rf_val y)
    obtain ⟨t, ht⟩ := hf _ _ _ R one (rf_val c) (rf_val x)
    have hs : (y.val : Int) * y.val - ((y * y : Fin p).val : Int) = p * s := hs
    rw [h] at hs
    exact ⟨s - t, by grind⟩
  exact fin_zero (hg _ _ _ R ⟨zero, one, rf_val c, rf_val x1, rf_val y1, rf_val x2, rf_val y2, rf_val x3, rf_val y3⟩)
    (tower_zero f hf g hg nb B hB hb hz p c.val x1.val y1.val x2.val y2.val x3.val y3.val (hy x1 y1 h1) (hy x2 y2 h2) (hy x3 y3 h3))
end Kr
/- Numbers modulo p, p shown prime by a generator of all powers. -/
namespace Fe

/-- n-th power -/
def pw {p : Nat} [NeZero p] (a : Fin p) : Nat → Fin p
  | 0 => 1
  | n + 1 => pw a n * a
section
variable {p : Nat} [NeZero p]
theorem pw_add (a : Fin p) (m n : Nat) : pw a (m + n) = pw a m * pw a n := by
  induction n with
  | zero => simp only [Nat.add_zero, pw]; grind
  | succ n ih => rw [← Nat.add_assoc]; simp only [pw, ih]; grind
theorem pw_mul (a : Fin p) (m n : Nat) : pw a (m * n) = pw (pw a m) n := by
  induction n with
  | zero => simp [pw]
  | succ n ih => rw [Nat.mul_succ, pw_add, ih]; rfl
theorem pw_one (n : Nat) : pw (1 : Fin p) n = 1 := by
  induction n with
  | zero => rfl
  | succ n ih => simp only [pw, ih]; grind
theorem pw_mulbase (a b : Fin p) (n : Nat) : pw (a * b) n = pw a n * pw b n := by
  induction n with
  | zero => simp only [pw]; grind
  | succ n ih => simp only [pw, ih]; grind
theorem pw_zero (n : Nat) (h : 0 < n) : pw (0 : Fin p) n = 0 := by
  obtain ⟨m, rfl⟩ : ∃ m, n = m + 1 := ⟨n - 1, by omega⟩
  simp only [pw]; grind
theorem pw_1 (a : Fin p) : pw a 1 = a := by simp only [pw]; grind
end

/- A function that is one to one on the numbers below n, into them, meets all of them. -/
theorem pigeon : ∀ (n : Nat) (f : Nat → Nat), (∀ i, i < n → f i < n) → (∀ i j, i < n → j < n → f i = f j → i = j) → ∀ k, k < n → ∃ i, i < n ∧ f i = k
  | 0, _, _, _, k, hk => by omega
  | n + 1, f, h1, h2, k, hk => by
    -- the place of n is swapped away
    by_cases hn : ∃ i, i < n + 1 ∧ f i = n
    · obtain ⟨m, hm, hfm⟩ := hn
      let g : Nat → Nat := fun i => if i = m then f n else f i
      have gdef : ∀ i, g i = if i = m then f n else f i := fun _ => rfl
      have hg1 : ∀ i, i < n → g i < n := by
        intro i hi
        rw [gdef]
        split
        · rename_i he
          have := h1 n (by omega)
          have : f n ≠ n := fun h => by have := h2 n m (by omega) hm (by omega); omega
          omega
        · rename_i he
          have := h1 i (by omega)
          have : f i ≠ n := fun h => he (h2 i m (by omega) hm (by omega))
          omega
      have hg2 : ∀ i j, i < n → j < n → g i = g j → i = j := by
        intro i j hi hj h
        rw [gdef, gdef] at h
        split at h <;> split at h
        · omega
        · have := h2 n j (by omega) (by omega) h; omega
        · have := h2 i n (by omega) (by omega) h; omega
        · exact h2 i j (by omega) (by omega) h
      by_cases hk2 : k = n
      · exact ⟨m, hm, by omega⟩
      · obtain ⟨i, hi, he⟩ := pigeon n g hg1 hg2 k (by omega)
        rw [gdef] at he
        split at he
        · exact ⟨n, by omega, he⟩
        · exact ⟨i, by omega, he⟩
    · -- nothing goes to n: then the first n + 1 go into n places
      exfalso
      have hlt : ∀ i, i < n + 1 → f i < n := fun i hi => by
        have := h1 i hi
        have : f i ≠ n := fun h => hn ⟨i, hi, h⟩
        omega
      obtain ⟨i, hi, he⟩ := pigeon n f (fun i hi => hlt i (by omega)) (fun i j hi hj => h2 i j (by omega) (by omega)) (f n) (hlt n (by omega))
      have := h2 i n (by omega) (by omega) he
      omega

/-- 'no divisor but 1 and itself' -/
def Pr (p : Nat) : Prop := 2 ≤ p ∧ ∀ d, d ∣ p → d = 1 ∨ d = p
/-- numbers of this list alone, as often as they stand there, make up n -/
def prod : List Nat → Nat
  | [] => 1
  | a :: l => a * prod l

theorem pr_dvd_mul {r : Nat} (hr : Pr r) {a b : Nat} (h : r ∣ a * b) : r ∣ a ∨ r ∣ b := by
  rcases hr.2 (Nat.gcd r a) (Nat.gcd_dvd_left r a) with hg | hg
  · right
    exact (Nat.Coprime.dvd_of_dvd_mul_left (show Nat.Coprime r a from hg) h)
  · left
    exact hg ▸ Nat.gcd_dvd_right r a

theorem prime_of_prod : ∀ (l : List Nat), (∀ r ∈ l, Pr r) → ∀ k, k ∣ prod l → k ≠ 1 → ∃ r ∈ l, r ∣ k
  | [], _, k, hk, h1 => absurd (Nat.dvd_one.1 hk) h1
  | a :: l, hl, k, hk, h1 => by
    rcases (hl a (by simp)).2 (Nat.gcd a k) (Nat.gcd_dvd_left a k) with hg | hg
    · have : k ∣ prod l := Nat.Coprime.dvd_of_dvd_mul_left (show Nat.Coprime k a by rw [Nat.Coprime, Nat.gcd_comm]; exact hg) hk
      obtain ⟨r, hr, h⟩ := prime_of_prod l (fun r hr => hl r (by simp [hr])) k this h1
      exact ⟨r, by simp [hr], h⟩
    · exact ⟨a, by simp, hg ▸ Nat.gcd_dvd_right a k⟩

section
variable {p : Nat} [NeZero p]
theorem pw_gcd {g : Fin p} {m : Nat} : ∀ (n k : Nat), n ≤ m → pw g k = 1 → pw g n = 1 → pw g (Nat.gcd n k) = 1 := by
  induction m with
  | zero => intro n k hn hk _; obtain rfl : n = 0 := by omega
            simpa using hk
  | succ m ih =>
    intro n k hn hk h
    by_cases h0 : n = 0
    · subst h0; simpa using hk
    · rw [Nat.gcd_rec]
      have hr : pw g (k % n) = 1 := by
        have e : pw g (n * (k / n) + k % n) = 1 := by rw [Nat.div_add_mod]; exact hk
        rw [pw_add, pw_mul, h, pw_one] at e
        rw [← e]; grind
      exact ih (k % n) n (by have := Nat.mod_lt k (show 0 < n by omega); omega) h hr
end

structure Gen (p : Nat) [NeZero p] (g : Fin p) (l : List Nat) : Prop where
  two : 2 ≤ p
  all : pw g (p - 1) = 1
  fac : prod l = p - 1
  pr : ∀ r ∈ l, Pr r
  ne : ∀ r ∈ l, pw g ((p - 1) / r) ≠ 1

section
variable {p : Nat} [NeZero p] {g : Fin p} {l : List Nat} (G : Gen p g l)
include G
theorem Gen.one_ne : (1 : Fin p) ≠ 0 := by
  have := G.two
  intro h
  have := congrArg Fin.val h
  have e0 : ((0 : Fin p) : Nat) = 0 := rfl
  have e1 : ((1 : Fin p) : Nat) = 1 % p := rfl
  rw [e0, e1, Nat.mod_eq_of_lt (by omega)] at this
  omega
theorem Gen.order (d : Nat) (h0 : 0 < d) (h1 : d < p - 1) : pw g d ≠ 1 := by
  intro h
  have hg := pw_gcd (m := d) d (p - 1) (Nat.le_refl _) G.all h
  generalize hE : Nat.gcd d (p - 1) = e at hg
  have he : e ∣ p - 1 := hE ▸ Nat.gcd_dvd_right _ _
  have hed : e ≤ d := hE ▸ Nat.gcd_le_left _ h0
  have he0 : 0 < e := Nat.pos_of_dvd_of_pos he (by omega)
  obtain ⟨k, hk⟩ := he
  have hk1 : k ≠ 1 := by rintro rfl; omega
  obtain ⟨r, hr, c, hc⟩ := prime_of_prod l G.pr k ⟨e, by rw [G.fac, hk, Nat.mul_comm]⟩ hk1
  have hr2 := (G.pr r hr).1
  refine G.ne r hr ?_
  have : (p - 1) / r = e * c := by
    rw [hk, hc]
    have : e * (r * c) = r * (e * c) := by grind
    rw [this, Nat.mul_div_cancel_left _ (by omega)]
  rw [this, pw_mul, hg, pw_one]
theorem Gen.unit : ∀ i j, pw g i = pw g j → i ≤ j → j < p - 1 → i = j := by
  intro i j h hij hj
  by_cases he : i = j
  · exact he
  exfalso
  refine G.order (j - i) (by omega) (by omega) ?_
  have a : pw g (p - 1 - i) * pw g i = 1 := by rw [← pw_add, show p - 1 - i + i = p - 1 by omega]; exact G.all
  have b : pw g (j - i) * pw g i = pw g i := by rw [← pw_add, show j - i + i = j by omega]; exact h.symm
  grind
theorem Gen.pw_ne (i : Nat) : pw g i ≠ 0 := by
  intro h
  have h1 : pw g (i * (p - 1)) = 1 := by rw [Nat.mul_comm, pw_mul, G.all, pw_one]
  by_cases h0 : i = 0
  · subst h0; exact G.one_ne h
  have h2 : pw g (i * (p - 1)) = 0 := by rw [pw_mul, h]; exact pw_zero _ (by have := G.two; omega)
  exact G.one_ne (h1.symm.trans h2)
/-- each number but 0 is a power -/
theorem Gen.power (a : Fin p) (ha : a ≠ 0) : ∃ i, pw g i = a := by
  have h2 := G.two
  have hv : ∀ b : Fin p, b ≠ 0 → 0 < b.val := fun b hb => Nat.pos_of_ne_zero (fun h => hb (Fin.ext h))
  obtain ⟨i, _, hi⟩ := pigeon (p - 1) (fun i => (pw g i).val - 1)
    (fun i _ => by have := (pw g i).isLt; have := hv _ (G.pw_ne i); omega)
    (fun i j hi hj h => by
      have a := hv _ (G.pw_ne i)
      have b := hv _ (G.pw_ne j)
      have e : pw g i = pw g j := Fin.ext (by have h : (pw g i).val - 1 = (pw g j).val - 1 := h; omega)
      rcases Nat.le_total i j with hl | hl
      · exact G.unit i j e hl hj
      · exact (G.unit j i e.symm hl hi).symm)
    (a.val - 1) (by have := a.isLt; have := hv a ha; omega)
  have hi : (pw g i).val - 1 = a.val - 1 := hi
  exact ⟨i, Fin.ext (by have := hv _ (G.pw_ne i); have := hv a ha; omega)⟩
theorem Gen.fermat (a : Fin p) (ha : a ≠ 0) : pw a (p - 1) = 1 := by
  obtain ⟨i, rfl⟩ := G.power a ha
  rw [← pw_mul, Nat.mul_comm, pw_mul, G.all, pw_one]
theorem Gen.inv (a : Fin p) (ha : a ≠ 0) : a * pw a (p - 2) = 1 := by
  have := G.fermat a ha
  have h2 := G.two
  rw [show p - 1 = p - 2 + 1 by omega] at this
  simp only [pw] at this
  grind
theorem Gen.dom (a b : Fin p) (h : a * b = 0) : a = 0 ∨ b = 0 := by
  by_cases ha : a = 0
  · exact .inl ha
  · right
    have := G.inv a ha
    grind
theorem Gen.prime : Pr p := by
  refine ⟨G.two, ?_⟩
  intro d hd
  obtain ⟨e, he⟩ := hd
  have h2 := G.two
  have hd0 : 0 < d := Nat.pos_of_ne_zero (by rintro rfl; omega)
  have he0 : 0 < e := Nat.pos_of_ne_zero (by rintro rfl; omega)
  by_cases hd1 : d = 1
  · exact .inl hd1
  by_cases hdp : d = p
  · exact .inr hdp
  exfalso
  have hdlt : d < p := by
    have : d ≤ p := Nat.le_of_dvd (by omega) ⟨e, he⟩
    omega
  have helt : e < p := by
    have : e ≤ p := Nat.le_of_dvd (by omega) ⟨d, by rw [Nat.mul_comm]; exact he⟩
    have : e ≠ p := by
      rintro rfl
      have : d * e = 1 * e := by omega
      exact hd1 (Nat.eq_of_mul_eq_mul_right he0 this)
    omega
  rcases G.dom ⟨d, hdlt⟩ ⟨e, helt⟩ (Fin.ext (by show (d * e) % p = 0; rw [← he]; exact Nat.mod_self p)) with h | h
  · have := congrArg Fin.val h; simp at this; omega
  · have := congrArg Fin.val h; simp at this; omega
end
end Fe
namespace Kr
/-- a field: 1 is not 0, products of others than 0 are not 0, inverses -/
structure Fld (p : Nat) [NeZero p] (iv : Fin p → Fin p) : Prop where
  one : (1 : Fin p) ≠ 0
  dom : ∀ a b : Fin p, a * b = 0 → a = 0 ∨ b = 0
  inv : ∀ a : Fin p, a ≠ 0 → a * iv a = 1
section
variable {p : Nat} [NeZero p] {iv : Fin p → Fin p} (F : Fld p iv)
include F
theorem Fld.cancel {a b d : Fin p} (ha : a ≠ 0) (h : a * b = a * d) : b = d := by
  have := F.inv a ha
  grind
theorem Fld.mul_ne {a b : Fin p} (ha : a ≠ 0) (hb : b ≠ 0) : a * b ≠ 0 := fun h => (F.dom a b h).elim ha hb
theorem Fld.iv_ne {a : Fin p} (ha : a ≠ 0) : iv a ≠ 0 := by
  intro h
  have := F.inv a ha
  rw [h] at this
  exact F.one (by grind)
end
end Kr
/- Commutative groups within a predicate; n times an element, by doubling. -/
namespace Gp
structure AG {G : Type} (S : G → Prop) (op : G → G → G) (e : G) (ng : G → G) : Prop where
  e_in : S e
  op_in : ∀ {a b}, S a → S b → S (op a b)
  ng_in : ∀ {a}, S a → S (ng a)
  idl : ∀ a, S a → op e a = a
  comm : ∀ {a b}, S a → S b → op a b = op b a
  assoc : ∀ {a b c}, S a → S b → S c → op (op a b) c = op a (op b c)
  inv : ∀ {a}, S a → op a (ng a) = e
def ml {G : Type} (op : G → G → G) (e : G) : Nat → G → G
  | 0, _ => e
  | n + 1, a => op (ml op e n a) a
section
variable {G : Type} {S : G → Prop} {op : G → G → G} {e : G} {ng : G → G} (A : AG S op e ng)
include A
theorem AG.ml_in (n : Nat) {a : G} (ha : S a) : S (ml op e n a) := by
  induction n with
  | zero => exact A.e_in
  | succ n ih => exact A.op_in ih ha
theorem AG.ml_add (m n : Nat) {a : G} (ha : S a) : ml op e (m + n) a = op (ml op e m a) (ml op e n a) := by
  induction n with
  | zero =>
    show ml op e m a = op (ml op e m a) e
    rw [A.comm (A.ml_in m ha) A.e_in, A.idl _ (A.ml_in m ha)]
  | succ n ih =>
    show op (ml op e (m + n) a) a = op (ml op e m a) (op (ml op e n a) a)
    rw [ih, A.assoc (A.ml_in m ha) (A.ml_in n ha) ha]
theorem AG.ml_one {a : G} (ha : S a) : ml op e 1 a = a := A.idl a ha
theorem AG.ml_e (n : Nat) : ml op e n e = e := by
  induction n with
  | zero => rfl
  | succ n ih => show op (ml op e n e) e = e; rw [ih, A.idl _ A.e_in]
theorem AG.ml_op (n : Nat) {a b : G} (ha : S a) (hb : S b) : ml op e n (op a b) = op (ml op e n a) (ml op e n b) := by
  induction n with
  | zero => exact (A.idl _ A.e_in).symm
  | succ n ih =>
    have x := A.ml_in n ha
    have y := A.ml_in n hb
    show op (ml op e n (op a b)) (op a b) = op (op (ml op e n a) a) (op (ml op e n b) b)
    rw [ih, A.assoc x y (A.op_in ha hb), ← A.assoc y ha hb, A.comm y ha, A.assoc ha y hb, ← A.assoc x ha (A.op_in y hb)]
theorem AG.ml_mul (m n : Nat) {a : G} (ha : S a) : ml op e (m * n) a = ml op e m (ml op e n a) := by
  induction m with
  | zero => rw [Nat.zero_mul]; rfl
  | succ m ih =>
    rw [Nat.succ_mul, A.ml_add _ _ ha, ih]
    rfl
theorem AG.ml_swap (m n : Nat) {a : G} (ha : S a) : ml op e m (ml op e n a) = ml op e n (ml op e m a) := by
  rw [← A.ml_mul m n ha, Nat.mul_comm, A.ml_mul n m ha]
theorem AG.ml_mod {q : Nat} {a : G} (ha : S a) (hq : ml op e q a = e) (n : Nat) : ml op e (n % q) a = ml op e n a := by
  have h : ml op e (n / q * q + n % q) a = ml op e (n % q) a := by
    rw [A.ml_add _ _ ha, A.ml_mul _ _ ha, hq, A.ml_e, A.idl _ (A.ml_in _ ha)]
  rw [← h, Nat.mul_comm, Nat.div_add_mod]
theorem AG.cancel {a b d : G} (ha : S a) (hb : S b) (hd : S d) (h : op a b = op a d) : b = d := by
  have h1 : op (ng a) (op a b) = b := by rw [← A.assoc (A.ng_in ha) ha hb, A.comm (A.ng_in ha) ha, A.inv ha, A.idl _ hb]
  have h2 : op (ng a) (op a d) = d := by rw [← A.assoc (A.ng_in ha) ha hd, A.comm (A.ng_in ha) ha, A.inv ha, A.idl _ hd]
  rw [← h1, h, h2]
theorem AG.ng_of {a b : G} (ha : S a) (hb : S b) (h : op a b = e) : b = ng a := A.cancel ha hb (A.ng_in ha) (h.trans (A.inv ha).symm)
end
/-- what the loop has behind the bits from i on: n / 2^i times -/
def tms {G : Type} (op : G → G → G) (e : G) (n : Nat) (a : G) : Nat → G → G
  | 0, out => out
  | i + 1, out => tms op e n a i (if n / 2 ^ i % 2 = 1 then op (op out out) a else op out out)
theorem AG.tms_ml {G : Type} {S : G → Prop} {op : G → G → G} {e : G} {ng : G → G} (A : AG S op e ng) (n : Nat) {a : G} (ha : S a) :
    ∀ i, tms op e n a i (ml op e (n / 2 ^ i) a) = ml op e n a
  | 0 => by simp [tms]
  | i + 1 => by
    have hd : n / 2 ^ i = n / 2 ^ (i + 1) + n / 2 ^ (i + 1) + n / 2 ^ i % 2 := by
      rw [Nat.pow_succ, ← Nat.div_div_eq_div_mul]
      omega
    have ih := AG.tms_ml A n ha i
    rw [hd, A.ml_add _ _ ha, A.ml_add _ _ ha] at ih
    simp only [tms]
    by_cases h : n / 2 ^ i % 2 = 1
    · rw [if_pos h]
      rw [h, A.ml_one ha] at ih
      exact ih
    · rw [if_neg h]
      have h0 : n / 2 ^ i % 2 = 0 := by omega
      rw [h0] at ih
      rw [show ml op e 0 a = e from rfl, A.comm (A.op_in (A.ml_in _ ha) (A.ml_in _ ha)) A.e_in, A.idl _ (A.op_in (A.ml_in _ ha) (A.ml_in _ ha))] at ih
      exact ih
theorem AG.tms_all {G : Type} {S : G → Prop} {op : G → G → G} {e : G} {ng : G → G} (A : AG S op e ng) {n k : Nat} {a : G} (ha : S a) (hn : n < 2 ^ k) :
    tms op e n a k e = ml op e n a := by
  have := A.tms_ml n ha k
  rw [Nat.div_eq_of_lt hn] at this
  exact this
attribute [irreducible] ml
end Gp
namespace Fe
/-- powers, by halving -/
def pm (m : Nat) : Nat → Nat → Nat → Nat → Nat
  | 0, _, _, acc => acc
  | f + 1, b, e, acc => pm m f (b * b % m) (e / 2) (bif Nat.beq (e % 2) 1 then acc * b % m else acc)
theorem pm_val {m : Nat} [NeZero m] : ∀ (f b e acc : Nat), e < 2 ^ f → ∀ (B A : Fin m), B.val = b % m → A.val = acc % m → pm m f b e acc % m = (A * pw B e).val
  | 0, b, e, acc, he, B, A, hB, hA => by
    obtain rfl : e = 0 := by simpa using he
    simp only [pm, pw]
    rw [← hA]
    congr 1
    grind
  | f + 1, b, e, acc, he, B, A, hB, hA => by
    have h2 : e / 2 < 2 ^ f := by rw [Nat.pow_succ] at he; omega
    have hBB : (B * B).val = b * b % m % m := by
      rw [Fin.val_mul, hB, ← Nat.mul_mod, Nat.mod_mod]
    have e2 : pw (B * B) (e / 2) = pw B (2 * (e / 2)) := by
      rw [pw_mul]; simp only [pw]; congr 1; grind
    simp only [pm]
    by_cases ho : e % 2 = 1
    · rw [ho]
      have := pm_val f (b * b % m) (e / 2) (acc * b % m) h2 (B * B) (A * B) hBB (by rw [Fin.val_mul, hA, hB, ← Nat.mul_mod, Nat.mod_mod])
      rw [show (bif Nat.beq 1 1 then acc * b % m else acc) = acc * b % m from rfl, this, e2]
      congr 1
      have : pw B e = pw B (2 * (e / 2)) * B := by
        have h := pw_add B (2 * (e / 2)) 1
        rw [show 2 * (e / 2) + 1 = e by omega, pw_1] at h
        exact h
      rw [this]
      grind
    · have h0 : e % 2 = 0 := by omega
      rw [h0]
      have := pm_val f (b * b % m) (e / 2) acc h2 (B * B) A hBB hA
      rw [show (bif Nat.beq 0 1 then acc * b % m else acc) = acc from rfl, this, e2, show 2 * (e / 2) = e by omega]
theorem pw_of_pm {m : Nat} [NeZero m] (f : Nat) (B : Fin m) (e : Nat) (he : e < 2 ^ f) : (pw B e).val = pm m f B.val e 1 % m := by
  rw [pm_val f B.val e 1 he B 1 (Nat.mod_eq_of_lt B.isLt).symm rfl]
  congr 1
  grind
/-- small primes, by trial -/
def trial (n : Nat) : Nat → Bool
  | 0 => true
  | d + 1 => (Nat.ble d 1 || !(Nat.beq (n % d) 0)) && trial n d
theorem trial_ok (n : Nat) : ∀ k, trial n k = true → ∀ d, 2 ≤ d → d < k → ¬ d ∣ n
  | 0, _, d, _, h => by omega
  | k + 1, ht, d, h2, hd => by
    simp only [trial, Bool.and_eq_true, Bool.or_eq_true, Nat.ble_eq] at ht
    by_cases e : d = k
    · subst e
      rcases ht.1 with h | h
      · omega
      · intro hdv
        rw [Nat.mod_eq_zero_of_dvd hdv] at h
        simp at h
    · exact trial_ok n k ht.2 d h2 (by omega)
theorem pr_trial (n : Nat) (h2 : 2 ≤ n) (h : trial n n = true) : Pr n := by
  refine ⟨h2, fun d hd => ?_⟩
  have hle := Nat.le_of_dvd (by omega) hd
  have h0 : d ≠ 0 := by rintro rfl; have := Nat.eq_zero_of_zero_dvd hd; omega
  by_cases h1 : d = 1
  · exact .inl h1
  by_cases hn : d = n
  · exact .inr hn
  exact absurd hd (trial_ok n n h d (by omega) (by omega))
/-- the closed facts of a generator -/
def genOk (p g f : Nat) (l : List Nat) : Bool :=
  Nat.ble 2 p && Nat.blt g p && Nat.blt p (2 ^ f) && Nat.beq (pm p f g (p - 1) 1 % p) 1 && Nat.beq (prod l) (p - 1) && l.all (fun r => !(Nat.beq (pm p f g ((p - 1) / r) 1 % p) 1))
theorem gen_of (p g f : Nat) [NeZero p] (l : List Nat) (h : genOk p g f l = true) (hl : ∀ r ∈ l, Pr r) : ∃ hg : g < p, Gen p ⟨g, hg⟩ l := by
  simp only [genOk, Bool.and_eq_true, Nat.ble_eq, Nat.blt_eq, List.all_eq_true, Bool.not_eq_true'] at h
  obtain ⟨⟨⟨⟨⟨h2, hg⟩, hf⟩, ha⟩, hp⟩, hn⟩ := h
  have ha := Nat.eq_of_beq_eq_true ha
  have hp := Nat.eq_of_beq_eq_true hp
  refine ⟨hg, ⟨h2, ?_, hp, hl, ?_⟩⟩
  · apply Fin.ext
    rw [pw_of_pm f _ _ (by omega)]
    show pm p f g (p - 1) 1 % p = 1 % p
    rw [ha, Nat.mod_eq_of_lt (by omega)]
  · intro r hr he
    have := hn r hr
    have hv := congrArg Fin.val he
    rw [pw_of_pm f _ _ (Nat.lt_of_le_of_lt (Nat.div_le_self (p - 1) r) (by omega))] at hv
    have h1 : ((1 : Fin p) : Nat) = 1 := by
      show 1 % p = 1
      exact Nat.mod_eq_of_lt h2
    rw [h1] at hv
    rw [hv] at this
    simp at this
theorem pr_of (p g f : Nat) (l : List Nat) (h : genOk p g f l = true) (hl : ∀ r ∈ l, Pr r) : Pr p := by
  have h2 : 2 ≤ p := by
    simp only [genOk, Bool.and_eq_true, Nat.ble_eq] at h
    exact h.1.1.1.1.1
  haveI : NeZero p := ⟨by omega⟩
  obtain ⟨_, G⟩ := gen_of p g f l h hl
  exact G.prime
theorem pr2 : Pr 2 := pr_trial 2 (by decide) (by decide +kernel)
theorem pr3 : Pr 3 := pr_trial 3 (by decide) (by decide +kernel)
theorem pr5 : Pr 5 := pr_trial 5 (by decide) (by decide +kernel)
theorem pr7 : Pr 7 := pr_trial 7 (by decide) (by decide +kernel)
theorem pr11 : Pr 11 := pr_trial 11 (by decide) (by decide +kernel)
theorem pr13 : Pr 13 := pr_trial 13 (by decide) (by decide +kernel)
theorem pr17 : Pr 17 := pr_trial 17 (by decide) (by decide +kernel)
theorem pr19 : Pr 19 := pr_trial 19 (by decide) (by decide +kernel)
theorem pr23 : Pr 23 := pr_trial 23 (by decide) (by decide +kernel)
theorem pr29 : Pr 29 := pr_trial 29 (by decide) (by decide +kernel)
theorem pr31 : Pr 31 := pr_trial 31 (by decide) (by decide +kernel)
theorem pr37 : Pr 37 := pr_trial 37 (by decide) (by decide +kernel)
theorem pr41 : Pr 41 := pr_trial 41 (by decide) (by decide +kernel)
theorem pr43 : Pr 43 := pr_trial 43 (by decide) (by decide +kernel)
theorem pr47 : Pr 47 := pr_trial 47 (by decide) (by decide +kernel)
theorem pr53 : Pr 53 := pr_trial 53 (by decide) (by decide +kernel)
theorem pr59 : Pr 59 := pr_trial 59 (by decide) (by decide +kernel)
theorem pr71 : Pr 71 := pr_trial 71 (by decide) (by decide +kernel)
theorem pr83 : Pr 83 := pr_trial 83 (by decide) (by decide +kernel)
theorem pr97 : Pr 97 := pr_trial 97 (by decide) (by decide +kernel)
theorem pr103 : Pr 103 := pr_trial 103 (by decide) (by decide +kernel)
theorem pr107 : Pr 107 := pr_trial 107 (by decide) (by decide +kernel)
theorem pr127 : Pr 127 := pr_trial 127 (by decide) (by decide +kernel)
theorem pr131 : Pr 131 := pr_trial 131 (by decide) (by decide +kernel)
theorem pr157 : Pr 157 := pr_trial 157 (by decide) (by decide +kernel)
theorem pr173 : Pr 173 := pr_trial 173 (by decide) (by decide +kernel)
theorem pr197 : Pr 197 := pr_trial 197 (by decide) (by decide +kernel)
theorem pr223 : Pr 223 := pr_trial 223 (by decide) (by decide +kernel)
theorem pr229 : Pr 229 := pr_trial 229 (by decide) (by decide +kernel)
theorem pr241 : Pr 241 := pr_trial 241 (by decide) (by decide +kernel)
theorem pr257 : Pr 257 := pr_trial 257 (by decide) (by decide +kernel)
theorem pr263 : Pr 263 := pr_trial 263 (by decide) (by decide +kernel)
theorem pr311 : Pr 311 := pr_trial 311 (by decide) (by decide +kernel)
theorem pr313 : Pr 313 := pr_trial 313 (by decide) (by decide +kernel)
theorem pr337 : Pr 337 := pr_trial 337 (by decide) (by decide +kernel)
theorem pr353 : Pr 353 := pr_trial 353 (by decide) (by decide +kernel)
theorem pr373 : Pr 373 := pr_trial 373 (by decide) (by decide +kernel)
theorem pr419 : Pr 419 := pr_trial 419 (by decide) (by decide +kernel)
theorem pr479 : Pr 479 := pr_trial 479 (by decide) (by decide +kernel)
theorem pr487 : Pr 487 := pr_trial 487 (by decide) (by decide +kernel)
theorem pr641 : Pr 641 := pr_trial 641 (by decide) (by decide +kernel)
theorem pr661 : Pr 661 := pr_trial 661 (by decide) (by decide +kernel)
theorem pr727 : Pr 727 := pr_trial 727 (by decide) (by decide +kernel)
theorem pr757 : Pr 757 := pr_trial 757 (by decide) (by decide +kernel)
theorem pr919 : Pr 919 := pr_trial 919 (by decide) (by decide +kernel)
theorem pr991 : Pr 991 := pr_trial 991 (by decide) (by decide +kernel)
theorem pr1087 : Pr 1087 := pr_trial 1087 (by decide) (by decide +kernel)
theorem pr1201 : Pr 1201 := pr_trial 1201 (by decide) (by decide +kernel)
theorem pr1297 : Pr 1297 := pr_trial 1297 (by decide) (by decide +kernel)
theorem pr1511 : Pr 1511 := pr_trial 1511 (by decide) (by decide +kernel)
theorem pr1531 : Pr 1531 := pr_trial 1531 (by decide) (by decide +kernel)
theorem pr1723 : Pr 1723 := pr_trial 1723 (by decide) (by decide +kernel)
theorem forall0 : ∀ r ∈ ([] : List Nat), Pr r := fun _ h => by cases h
theorem forall1 {a : Nat} {l : List Nat} (ha : Pr a) (hl : ∀ r ∈ l, Pr r) : ∀ r ∈ a :: l, Pr r := fun r h => by
  rcases List.mem_cons.1 h with rfl | h
  · exact ha
  · exact hl r h
theorem pr2411 : Pr 2411 := pr_of 2411 6 12 [2, 5, 241] (by decide +kernel) (forall1 pr2 (forall1 pr5 (forall1 pr241 forall0)))
theorem pr2437 : Pr 2437 := pr_of 2437 2 12 [2, 2, 3, 7, 29] (by decide +kernel) (forall1 pr2 (forall1 pr2 (forall1 pr3 (forall1 pr7 (forall1 pr29 forall0)))))
theorem pr3023 : Pr 3023 := pr_of 3023 5 12 [2, 1511] (by decide +kernel) (forall1 pr2 (forall1 pr1511 forall0))
theorem pr3407 : Pr 3407 := pr_of 3407 5 12 [2, 13, 131] (by decide +kernel) (forall1 pr2 (forall1 pr13 (forall1 pr131 forall0)))
theorem pr3677 : Pr 3677 := pr_of 3677 2 12 [2, 2, 919] (by decide +kernel) (forall1 pr2 (forall1 pr2 (forall1 pr919 forall0)))
theorem pr3727 : Pr 3727 := pr_of 3727 3 12 [2, 3, 3, 3, 3, 23] (by decide +kernel) (forall1 pr2 (forall1 pr3 (forall1 pr3 (forall1 pr3 (forall1 pr3 (forall1 pr23 forall0))))))
theorem pr3769 : Pr 3769 := pr_of 3769 7 12 [2, 2, 2, 3, 157] (by decide +kernel) (forall1 pr2 (forall1 pr2 (forall1 pr2 (forall1 pr3 (forall1 pr157 forall0)))))
theorem pr4153 : Pr 4153 := pr_of 4153 5 13 [2, 2, 2, 3, 173] (by decide +kernel) (forall1 pr2 (forall1 pr2 (forall1 pr2 (forall1 pr3 (forall1 pr173 forall0)))))
theorem pr4349 : Pr 4349 := pr_of 4349 2 13 [2, 2, 1087] (by decide +kernel) (forall1 pr2 (forall1 pr2 (forall1 pr1087 forall0)))
theorem pr9463 : Pr 9463 := pr_of 9463 3 14 [2, 3, 19, 83] (by decide +kernel) (forall1 pr2 (forall1 pr3 (forall1 pr19 (forall1 pr83 forall0))))
theorem pr9547 : Pr 9547 := pr_of 9547 2 14 [2, 3, 37, 43] (by decide +kernel) (forall1 pr2 (forall1 pr3 (forall1 pr37 (forall1 pr43 forall0))))
theorem pr16879 : Pr 16879 := pr_of 16879 3 15 [2, 3, 29, 97] (by decide +kernel) (forall1 pr2 (forall1 pr3 (forall1 pr29 (forall1 pr97 forall0))))
theorem pr17449 : Pr 17449 := pr_of 17449 14 15 [2, 2, 2, 3, 727] (by decide +kernel) (forall1 pr2 (forall1 pr2 (forall1 pr2 (forall1 pr3 (forall1 pr727 forall0)))))
theorem pr18169 : Pr 18169 := pr_of 18169 11 15 [2, 2, 2, 3, 757] (by decide +kernel) (forall1 pr2 (forall1 pr2 (forall1 pr2 (forall1 pr3 (forall1 pr757 forall0)))))
theorem pr32573 : Pr 32573 := pr_of 32573 2 15 [2, 2, 17, 479] (by decide +kernel) (forall1 pr2 (forall1 pr2 (forall1 pr17 (forall1 pr479 forall0))))
theorem pr37853 : Pr 37853 := pr_of 37853 2 16 [2, 2, 9463] (by decide +kernel) (forall1 pr2 (forall1 pr2 (forall1 pr9463 forall0)))
theorem pr38189 : Pr 38189 := pr_of 38189 2 16 [2, 2, 9547] (by decide +kernel) (forall1 pr2 (forall1 pr2 (forall1 pr9547 forall0)))
theorem pr57467 : Pr 57467 := pr_of 57467 2 16 [2, 59, 487] (by decide +kernel) (forall1 pr2 (forall1 pr59 (forall1 pr487 forall0)))
theorem pr65147 : Pr 65147 := pr_of 65147 2 16 [2, 32573] (by decide +kernel) (forall1 pr2 (forall1 pr32573 forall0))
theorem pr65537 : Pr 65537 := pr_of 65537 3 17 [2, 2, 2, 2, 2, 2, 2, 2, 2, 2, 2, 2, 2, 2, 2, 2] (by decide +kernel) (forall1 pr2 (forall1 pr2 (forall1 pr2 (forall1 pr2 (forall1 pr2 (forall1 pr2 (forall1 pr2 (forall1 pr2 (forall1 pr2 (forall1 pr2 (forall1 pr2 (forall1 pr2 (forall1 pr2 (forall1 pr2 (forall1 pr2 (forall1 pr2 forall0))))))))))))))))
theorem pr75707 : Pr 75707 := pr_of 75707 2 17 [2, 37853] (by decide +kernel) (forall1 pr2 (forall1 pr37853 forall0))
theorem pr78283 : Pr 78283 := pr_of 78283 3 17 [2, 3, 3, 4349] (by decide +kernel) (forall1 pr2 (forall1 pr3 (forall1 pr3 (forall1 pr4349 forall0))))
theorem pr104471 : Pr 104471 := pr_of 104471 11 17 [2, 5, 31, 337] (by decide +kernel) (forall1 pr2 (forall1 pr5 (forall1 pr31 (forall1 pr337 forall0))))
theorem pr126241 : Pr 126241 := pr_of 126241 7 17 [2, 2, 2, 2, 2, 3, 5, 263] (by decide +kernel) (forall1 pr2 (forall1 pr2 (forall1 pr2 (forall1 pr2 (forall1 pr2 (forall1 pr3 (forall1 pr5 (forall1 pr263 forall0))))))))
theorem pr132049 : Pr 132049 := pr_of 132049 26 18 [2, 2, 2, 2, 3, 3, 7, 131] (by decide +kernel) (forall1 pr2 (forall1 pr2 (forall1 pr2 (forall1 pr2 (forall1 pr3 (forall1 pr3 (forall1 pr7 (forall1 pr131 forall0))))))))
theorem pr155317 : Pr 155317 := pr_of 155317 5 18 [2, 2, 3, 7, 43, 43] (by decide +kernel) (forall1 pr2 (forall1 pr2 (forall1 pr3 (forall1 pr7 (forall1 pr43 (forall1 pr43 forall0))))))
theorem pr430751 : Pr 430751 := pr_of 430751 17 19 [2, 5, 5, 5, 1723] (by decide +kernel) (forall1 pr2 (forall1 pr5 (forall1 pr5 (forall1 pr5 (forall1 pr1723 forall0)))))
theorem pr490463 : Pr 490463 := pr_of 490463 14 19 [2, 7, 53, 661] (by decide +kernel) (forall1 pr2 (forall1 pr7 (forall1 pr53 (forall1 pr661 forall0))))
theorem pr569003 : Pr 569003 := pr_of 569003 2 20 [2, 7, 97, 419] (by decide +kernel) (forall1 pr2 (forall1 pr7 (forall1 pr97 (forall1 pr419 forall0))))
theorem pr704251 : Pr 704251 := pr_of 704251 2 20 [2, 3, 3, 5, 5, 5, 313] (by decide +kernel) (forall1 pr2 (forall1 pr3 (forall1 pr3 (forall1 pr5 (forall1 pr5 (forall1 pr5 (forall1 pr313 forall0)))))))
theorem pr1923133 : Pr 1923133 := pr_of 1923133 2 21 [2, 2, 3, 43, 3727] (by decide +kernel) (forall1 pr2 (forall1 pr2 (forall1 pr3 (forall1 pr43 (forall1 pr3727 forall0)))))
theorem pr3969899 : Pr 3969899 := pr_of 3969899 2 22 [2, 19, 104471] (by decide +kernel) (forall1 pr2 (forall1 pr19 (forall1 pr104471 forall0)))
theorem pr6700417 : Pr 6700417 := pr_of 6700417 5 23 [2, 2, 2, 2, 2, 2, 2, 3, 17449] (by decide +kernel) (forall1 pr2 (forall1 pr2 (forall1 pr2 (forall1 pr2 (forall1 pr2 (forall1 pr2 (forall1 pr2 (forall1 pr3 (forall1 pr17449 forall0)))))))))
theorem pr8574133 : Pr 8574133 := pr_of 8574133 2 24 [2, 2, 3, 7, 103, 991] (by decide +kernel) (forall1 pr2 (forall1 pr2 (forall1 pr3 (forall1 pr7 (forall1 pr103 (forall1 pr991 forall0))))))
theorem pr9350987 : Pr 9350987 := pr_of 9350987 2 24 [2, 17, 229, 1201] (by decide +kernel) (forall1 pr2 (forall1 pr17 (forall1 pr229 (forall1 pr1201 forall0))))
theorem pr187019741 : Pr 187019741 := pr_of 187019741 2 28 [2, 2, 5, 9350987] (by decide +kernel) (forall1 pr2 (forall1 pr2 (forall1 pr5 (forall1 pr9350987 forall0))))
theorem pr191039911 : Pr 191039911 := pr_of 191039911 3 28 [2, 3, 5, 41, 155317] (by decide +kernel) (forall1 pr2 (forall1 pr3 (forall1 pr5 (forall1 pr41 (forall1 pr155317 forall0)))))
theorem pr204061199 : Pr 204061199 := pr_of 204061199 11 28 [2, 11, 23, 107, 3769] (by decide +kernel) (forall1 pr2 (forall1 pr11 (forall1 pr23 (forall1 pr107 (forall1 pr3769 forall0)))))
theorem pr311245691 : Pr 311245691 := pr_of 311245691 2 29 [2, 5, 7, 17, 29, 29, 311] (by decide +kernel) (forall1 pr2 (forall1 pr5 (forall1 pr7 (forall1 pr17 (forall1 pr29 (forall1 pr29 (forall1 pr311 forall0)))))))
theorem pr622491383 : Pr 622491383 := pr_of 622491383 5 30 [2, 311245691] (by decide +kernel) (forall1 pr2 (forall1 pr311245691 forall0))
theorem pr2773320623 : Pr 2773320623 := pr_of 2773320623 5 32 [2, 2437, 569003] (by decide +kernel) (forall1 pr2 (forall1 pr2437 (forall1 pr569003 forall0)))
theorem pr34282281433 : Pr 34282281433 := pr_of 34282281433 17 35 [2, 2, 2, 3, 7, 204061199] (by decide +kernel) (forall1 pr2 (forall1 pr2 (forall1 pr2 (forall1 pr3 (forall1 pr7 (forall1 pr204061199 forall0))))))
theorem pr66417393611 : Pr 66417393611 := pr_of 66417393611 6 36 [2, 5, 53, 173, 197, 3677] (by decide +kernel) (forall1 pr2 (forall1 pr5 (forall1 pr53 (forall1 pr173 (forall1 pr197 (forall1 pr3677 forall0))))))
theorem pr72106336199 : Pr 72106336199 := pr_of 72106336199 7 37 [2, 13, 2773320623] (by decide +kernel) (forall1 pr2 (forall1 pr13 (forall1 pr2773320623 forall0)))
theorem pr1002328039319 : Pr 1002328039319 := pr_of 1002328039319 19 40 [2, 126241, 3969899] (by decide +kernel) (forall1 pr2 (forall1 pr126241 (forall1 pr3969899 forall0)))
theorem pr11290956913871 : Pr 11290956913871 := pr_of 11290956913871 13 44 [2, 5, 17, 66417393611] (by decide +kernel) (forall1 pr2 (forall1 pr5 (forall1 pr17 (forall1 pr66417393611 forall0))))
theorem pr1919519569386763 : Pr 1919519569386763 := pr_of 1919519569386763 2 51 [2, 3, 7, 19, 47, 47, 127, 8574133] (by decide +kernel) (forall1 pr2 (forall1 pr3 (forall1 pr7 (forall1 pr19 (forall1 pr47 (forall1 pr47 (forall1 pr127 (forall1 pr8574133 forall0))))))))
theorem pr31757755568855353 : Pr 31757755568855353 := pr_of 31757755568855353 10 55 [2, 2, 2, 3, 31, 107, 223, 4153, 430751] (by decide +kernel) (forall1 pr2 (forall1 pr2 (forall1 pr2 (forall1 pr3 (forall1 pr31 (forall1 pr107 (forall1 pr223 (forall1 pr4153 (forall1 pr430751 forall0)))))))))
theorem pr46076956964474543 : Pr 46076956964474543 := pr_of 46076956964474543 5 56 [2, 23, 18169, 78283, 704251] (by decide +kernel) (forall1 pr2 (forall1 pr23 (forall1 pr18169 (forall1 pr78283 (forall1 pr704251 forall0)))))
theorem pr208150935158385979 : Pr 208150935158385979 := pr_of 208150935158385979 2 58 [2, 3, 11, 43, 127, 3023, 191039911] (by decide +kernel) (forall1 pr2 (forall1 pr3 (forall1 pr11 (forall1 pr43 (forall1 pr127 (forall1 pr3023 (forall1 pr191039911 forall0)))))))
theorem pr2624747550333869278416773953 : Pr 2624747550333869278416773953 := pr_of 2624747550333869278416773953 7 92 [2, 2, 2, 2, 2, 2, 3, 3, 1297, 16879, 208150935158385979] (by decide +kernel) (forall1 pr2 (forall1 pr2 (forall1 pr2 (forall1 pr2 (forall1 pr2 (forall1 pr2 (forall1 pr3 (forall1 pr3 (forall1 pr1297 (forall1 pr16879 (forall1 pr208150935158385979 forall0)))))))))))
theorem pr75445702479781427272750846543864801 : Pr 75445702479781427272750846543864801 := pr_of 75445702479781427272750846543864801 7 116 [2, 2, 2, 2, 2, 3, 3, 5, 5, 75707, 72106336199, 1919519569386763] (by decide +kernel) (forall1 pr2 (forall1 pr2 (forall1 pr2 (forall1 pr2 (forall1 pr2 (forall1 pr3 (forall1 pr3 (forall1 pr5 (forall1 pr5 (forall1 pr75707 (forall1 pr72106336199 (forall1 pr1919519569386763 forall0))))))))))))
theorem pr774023187263532362759620327192479577272145303 : Pr 774023187263532362759620327192479577272145303 := pr_of 774023187263532362759620327192479577272145303 3 150 [2, 3, 3, 2411, 34282281433, 11290956913871, 46076956964474543] (by decide +kernel) (forall1 pr2 (forall1 pr3 (forall1 pr3 (forall1 pr2411 (forall1 pr34282281433 (forall1 pr11290956913871 (forall1 pr46076956964474543 forall0)))))))
theorem pr835945042244614951780389953367877943453916927241 : Pr 835945042244614951780389953367877943453916927241 := pr_of 835945042244614951780389953367877943453916927241 11 160 [2, 2, 2, 3, 3, 3, 5, 774023187263532362759620327192479577272145303] (by decide +kernel) (forall1 pr2 (forall1 pr2 (forall1 pr2 (forall1 pr3 (forall1 pr3 (forall1 pr3 (forall1 pr5 (forall1 pr774023187263532362759620327192479577272145303 forall0))))))))
theorem pr74058212732561358302231226437062788676166966415465897661863160754340907 : Pr 74058212732561358302231226437062788676166966415465897661863160754340907 := pr_of 74058212732561358302231226437062788676166966415465897661863160754340907 2 236 [2, 3, 353, 57467, 132049, 1923133, 31757755568855353, 75445702479781427272750846543864801] (by decide +kernel) (forall1 pr2 (forall1 pr3 (forall1 pr353 (forall1 pr57467 (forall1 pr132049 (forall1 pr1923133 (forall1 pr31757755568855353 (forall1 pr75445702479781427272750846543864801 forall0))))))))
def p25519Fs : List Nat := [2, 2, 3, 65147, 74058212732561358302231226437062788676166966415465897661863160754340907]
theorem p25519_ok : genOk 57896044618658097711785492504343953926634992332820282019728792003956564819949 2 255 p25519Fs = true := by decide +kernel
theorem p25519_pr : ∀ r ∈ p25519Fs, Pr r := (forall1 pr2 (forall1 pr2 (forall1 pr3 (forall1 pr65147 (forall1 pr74058212732561358302231226437062788676166966415465897661863160754340907 forall0)))))
def q256Fs : List Nat := [2, 2, 2, 2, 3, 71, 131, 373, 3407, 17449, 38189, 187019741, 622491383, 1002328039319, 2624747550333869278416773953]
theorem q256_ok : genOk 115792089210356248762697446949407573529996955224135760342422259061068512044369 7 256 q256Fs = true := by decide +kernel
theorem q256_pr : ∀ r ∈ q256Fs, Pr r := (forall1 pr2 (forall1 pr2 (forall1 pr2 (forall1 pr2 (forall1 pr3 (forall1 pr71 (forall1 pr131 (forall1 pr373 (forall1 pr3407 (forall1 pr17449 (forall1 pr38189 (forall1 pr187019741 (forall1 pr622491383 (forall1 pr1002328039319 (forall1 pr2624747550333869278416773953 forall0)))))))))))))))
def p256Fs : List Nat := [2, 3, 5, 5, 17, 257, 641, 1531, 65537, 490463, 6700417, 835945042244614951780389953367877943453916927241]
theorem p256_ok : genOk 115792089210356248762697446949407573530086143415290314195533631308867097853951 6 256 p256Fs = true := by decide +kernel
theorem p256_pr : ∀ r ∈ p256Fs, Pr r := (forall1 pr2 (forall1 pr3 (forall1 pr5 (forall1 pr5 (forall1 pr17 (forall1 pr257 (forall1 pr641 (forall1 pr1531 (forall1 pr65537 (forall1 pr490463 (forall1 pr6700417 (forall1 pr835945042244614951780389953367877943453916927241 forall0))))))))))))
end Fe
