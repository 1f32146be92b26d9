/- Part of the proof: MachD. -/
import Derived.Test.YtmcgmfjmjpbgaaaDoorMachC
set_option linter.unusedVariables false
set_option linter.unusedSectionVars false
/- AN ABSTRACT MACHINE. Part 27: one operation of a region that draws its order, at whatever time. -/
namespace Go.Am
def nthH (HT : List AHeap) (m : Nat) : AHeap :=
  match HT[m]? with
  | some H => H
  | none => []
def upTo (f : Nat → Bool) : List Nat → Nat
  | [] => 0
  | x :: xs => bif f x then upTo f xs + 1 else 0
/-- a check that some conditions are left, or seen -/
def okV (go : Option (List Cond)) (c : List Cond) : Option (List Cond) :=
  match go with
  | some c' => some (c ++ c')
  | none => none
def holeAt (H : AHeap) (s : Nat) : Bool :=
  match H[s]? with
  | some .hole => true
  | _ => false
def winOne (E : Env) (opn : Bool) (op : Op) (xs : List AVal) (Ds : List Dn) (HT : List AHeap) (an : Nat) (d : Dn) (m : Nat) : Option (List Cond) :=
  let V := fillD Ds (fun x => inM x an) (nthH HT m)
  match localV E op xs V with
  | some (v, V', c) =>
    match keep opn c with
    | some c' =>
      bif Nat.beq d.kind 0 then bif Nat.beq V'.length V.length then some (c' ++ [.eqv v d.raw]) else none
      else match V'[V.length]? with
        | some b => bif b.made && (holeAt (nthH HT m) d.slot && Nat.beq V'.length (V.length + 1)) then some (c' ++ [.eqv (v.ren (toS V.length d.slot)) d.raw, .eqh [b.ren (toS V.length d.slot)] [d.blk]]) else none
        | none => none
    | none => none
  | none => none
def winAll (E : Env) (opn : Bool) (op : Op) (xs : List AVal) (Ds : List Dn) (HT : List AHeap) (an : Nat) (d : Dn) : Nat → Nat → Option (List Cond)
  | 0, _ => some []
  | n + 1, m => match winOne E opn op xs Ds HT an d m with
    | some c => okV (winAll E opn op xs Ds HT an d n (m + 1)) c
    | none => none
def slotsLt (Ds : List Dn) (n : Nat) : Bool := allI (fun _ d => !Nat.beq d.kind 1 || Nat.blt d.slot n) 0 Ds
def decC (d : Dn) : Option (List Cond) :=
  match d.dec with
  | none => some []
  | some x => match d.raw with
    | .bool b => some [.tt (b == x)]
    | _ => none
/-- the deed's place among the deeds -/
def placeOf (es : List Nat) (i : Nat) : Nat := upTo (fun x => !Nat.beq x i) es
def chkO (E : Env) (ro : Bool) (tm : List Nat) (ops : Array Oper) (fr0 : List AVal) (Ds : List Dn) (es : List Nat) (HT : List AHeap) (i : Nat) (o : Oper) (d : Dn) : Option (List Cond) :=
  let fr := lookP Ds (fun x => inM x (ancM ops i)) fr0
  let opn := ro || (openDst tm o.dst || isCall o.op)
  bif chkS ops Ds i o d then
    match decC d with
    | some c0 =>
      match guardL fr ops o with
      | some false => bif Nat.beq d.kind 0 && !memB i es then some (c0 ++ [.eqv undefA d.raw]) else none
      | some true =>
        match argsL fr o.op with
        | some (.val v) => bif Nat.beq d.kind 0 && !memB i es then some (c0 ++ [.eqv v d.raw]) else none
        | some (.xs xs) =>
          bif isDeed o.op then
            let k := placeOf es i
            let V := fillD Ds (fun x => inM x (ancM ops i)) (nthH HT k)
            bif Nat.beq d.kind 2 && (Nat.blt k es.length && (allB (fun x => inM x (ancM ops i)) (es.take k) && (nodupB es && slotsLt Ds (nthH HT k).length))) then
              match stepL E o.op xs V with
              | some (v, V', c) => match keep opn c with
                | some c' => some (c0 ++ (c' ++ [.eqv v d.raw, .eqh V' (nthH HT (k + 1))]))
                | none => none
              | none => none
            else none
          else
            let lo := upTo (fun x => inM x (ancM ops i)) es
            let hi := upTo (fun x => !inM i (ancM ops x)) es
            bif !memB i es && ((Nat.beq d.kind 0 || (Nat.beq d.kind 1 && (match slotD 0 Ds d.slot with | some (j, _) => Nat.beq j i | none => false))) && Nat.ble lo hi) then okV (winAll E opn o.op xs Ds HT (ancM ops i) d (hi + 1 - lo) lo) c0 else none
        | none => none
      | none => none
    | none => none
  else none

/- HOW FAR THE DEEDS HAVE COME -/
def Far (es : List Nat) (p : Nat → Bool) (m : Nat) : Prop := m ≤ es.length ∧ ∀ (k e : Nat), es[k]? = some e → (p e = true ↔ k < m)
theorem upTo_le (f : Nat → Bool) : ∀ l, upTo f l ≤ l.length
  | [] => Nat.le_refl _
  | x :: xs => by
    simp only [upTo]
    cases f x with
    | true => simpa using upTo_le f xs
    | false => simp
theorem upTo_before (f : Nat → Bool) : ∀ (l : List Nat) (k x : Nat), l[k]? = some x → k < upTo f l → f x = true
  | [], k, x, h, _ => by simp at h
  | y :: ys, k, x, h, hk => by
    simp only [upTo] at hk
    cases hy : f y with
    | false => simp [hy] at hk
    | true =>
      simp only [hy, cond_true] at hk
      cases k with
      | zero => simp only [List.getElem?_cons_zero, Option.some.injEq] at h; rw [← h]; exact hy
      | succ k => exact upTo_before f ys k x (by simpa using h) (by omega)
theorem upTo_at (f : Nat → Bool) : ∀ (l : List Nat) (x : Nat), l[upTo f l]? = some x → f x = false
  | [], x, h => by simp [upTo] at h
  | y :: ys, x, h => by
    simp only [upTo] at h
    cases hy : f y with
    | false =>
      simp only [hy, cond_false, List.getElem?_cons_zero, Option.some.injEq] at h
      rw [← h]; exact hy
    | true =>
      simp only [hy, cond_true, List.getElem?_cons_succ] at h
      exact upTo_at f ys x h
theorem Far.lo {es : List Nat} {p : Nat → Bool} {m : Nat} (h : Far es p m) {anc : Nat} (ha : ∀ x, inM x anc = true → p x = true) : upTo (fun x => inM x anc) es ≤ m := by
  refine Classical.byContradiction fun hlt => ?_
  have hlt : m < upTo (fun x => inM x anc) es := by omega
  have hm : m < es.length := Nat.lt_of_lt_of_le hlt (upTo_le _ _)
  have h1 : es[m]? = some es[m] := List.getElem?_eq_getElem hm
  have h2 := upTo_before _ es m _ h1 hlt
  have h3 := (h.2 m _ h1).1 (ha _ h2)
  omega
theorem Far.hi {es : List Nat} {p : Nat → Bool} {m : Nat} (h : Far es p m) {ops : Array Oper} (hp : Down ops p) {i : Nat} (hi : p i = false) : m ≤ upTo (fun x => !inM i (ancM ops x)) es := by
  refine Classical.byContradiction fun hlt => ?_
  have hlt : upTo (fun x => !inM i (ancM ops x)) es < m := by omega
  have hk : upTo (fun x => !inM i (ancM ops x)) es < es.length := Nat.lt_of_lt_of_le hlt h.1
  have h1 := List.getElem?_eq_getElem hk
  have h2 := upTo_at _ es _ h1
  have h3 := (h.2 _ _ h1).2 hlt
  simp only [Bool.not_eq_false'] at h2
  have h4 := h2
  have := hp _ h3 i h4
  rw [hi] at this
  cases this
theorem winAll_at {E : Env} {opn : Bool} {op : Op} {xs : List AVal} {Ds : List Dn} {HT : List AHeap} {an : Nat} {d : Dn} : ∀ (n lo m : Nat) (c : List Cond), winAll E opn op xs Ds HT an d n lo = some c → All c → lo ≤ m → m < lo + n → ∃ c1, winOne E opn op xs Ds HT an d m = some c1 ∧ All c1
  | 0, lo, m, c, h, hc, h1, h2 => by omega
  | n + 1, lo, m, c, h, hc, h1, h2 => by
    simp only [winAll] at h
    split at h
    · rename_i c1 hw
      unfold okV at h
      split at h
      · rename_i c2 hr
        simp only [Option.some.injEq] at h
        subst h
        obtain ⟨ha, hb⟩ := (All_append _ _).1 hc
        rcases Nat.eq_or_lt_of_le h1 with rfl | hlt
        · exact ⟨c1, hw, ha⟩
        · exact winAll_at n (lo + 1) m c2 hr hb hlt (by omega)
      · cases h
    · cases h
theorem slotsLt_ok {Ds : List Dn} {n : Nat} (h : slotsLt Ds n = true) : ∀ (b i : Nat) (c : ABlk), slotD 0 Ds b = some (i, c) → b < n := by
  have : ∀ (l : List Dn) (k : Nat), allI (fun _ d => !Nat.beq d.kind 1 || Nat.blt d.slot n) k l = true → ∀ (b i : Nat) (c : ABlk), slotD k l b = some (i, c) → b < n := by
    intro l
    induction l with
    | nil => intro k _ b i c h; simp [slotD] at h
    | cons d l ih =>
      intro k h b i c hs
      simp only [allI, Bool.and_eq_true] at h
      simp only [slotD] at hs
      cases hb : (Nat.beq d.kind 1 && Nat.beq d.slot b) with
      | true =>
        simp only [Bool.and_eq_true] at hb
        have h1 := h.1
        simp only [hb.1, Bool.not_true, Bool.false_or] at h1
        rw [← Nat.eq_of_beq_eq_true hb.2]
        simpa [Nat.blt_eq] using h1
      | false =>
        simp only [hb, cond_false] at hs
        exact ih _ h.2 b i c hs
  exact this Ds 0 h
theorem decC_ok {d : Dn} {c : List Cond} (h : decC d = some c) (hc : All c) : d.v = d.raw := by
  unfold decC at h
  unfold Dn.v
  split at h
  · rename_i hd
    rw [hd]
  · rename_i x hd
    rw [hd]
    split at h
    · rename_i b hb
      simp only [Option.some.injEq] at h
      subst h
      have : (b == x) = true := hc.1
      rw [hb]
      simp only [beq_iff_eq] at this
      rw [this]
    · cases h
/-- one more has been done -/
def plus1 (p : Nat → Bool) (i : Nat) : Nat → Bool := fun j => p j || Nat.beq j i
theorem plus1_self (p : Nat → Bool) (i : Nat) : plus1 p i i = true := by simp [plus1]
theorem plus1_ne {p : Nat → Bool} {i j : Nat} (h : j ≠ i) : plus1 p i j = p j := by
  have : Nat.beq j i = false := by
    cases hb : Nat.beq j i with
    | false => rfl
    | true => exact absurd (Nat.eq_of_beq_eq_true hb) h
  simp [plus1, this]
theorem plus1_mono {p : Nat → Bool} {i j : Nat} (h : p j = true) : plus1 p i j = true := by simp [plus1, h]
theorem fillD_plus {Ds : List Dn} {p : Nat → Bool} {i : Nat} {d : Dn} (hd : Ds[i]? = some d) (hk : d.kind ≠ 1) (H : AHeap) : fillD Ds (plus1 p i) H = fillD Ds p H := by
  have hs : ∀ (l : List Dn) (k b j : Nat) (c : ABlk), slotD k l b = some (j, c) → ∃ x, l[j - k]? = some x ∧ k ≤ j ∧ x.kind = 1 := by
    intro l
    induction l with
    | nil => intro k b j c h; simp [slotD] at h
    | cons y l ih =>
      intro k b j c h
      simp only [slotD] at h
      cases hb : (Nat.beq y.kind 1 && Nat.beq y.slot b) with
      | true =>
        simp only [hb, cond_true, Option.some.injEq, Prod.mk.injEq] at h
        simp only [Bool.and_eq_true] at hb
        obtain ⟨rfl, _⟩ := h
        exact ⟨y, by simp, Nat.le_refl _, Nat.eq_of_beq_eq_true hb.1⟩
      | false =>
        simp only [hb, cond_false] at h
        obtain ⟨x, h1, h2, h3⟩ := ih _ _ _ _ h
        refine ⟨x, ?_, by omega, h3⟩
        have : j - k = (j - (k + 1)) + 1 := by omega
        rw [this, List.getElem?_cons_succ]
        exact h1
  apply List.ext_getElem?
  intro b
  rw [fillD_get, fillD_get]
  congr 1
  funext x
  cases x with
  | hole =>
    simp only [fillB_hole]
    cases he : slotD 0 Ds b with
    | none => rfl
    | some jc =>
      obtain ⟨j, c⟩ := jc
      obtain ⟨x, h1, _, h3⟩ := hs _ _ _ _ _ he
      rw [Nat.sub_zero] at h1
      have : j ≠ i := by
        rintro rfl
        rw [hd] at h1
        simp only [Option.some.injEq] at h1
        exact hk (h1 ▸ h3)
      simp only [plus1_ne this]
  | _ => rfl
theorem fillD_make {Ds : List Dn} {p : Nat → Bool} {i s : Nat} {c : ABlk} (hs : slotD 0 Ds s = some (i, c)) (hu : ∀ b c', slotD 0 Ds b = some (i, c') → b = s) {H : AHeap} (hh : H[s]? = some .hole) :
    fillD Ds (plus1 p i) H = (fillD Ds p H).set s c := by
  apply List.ext_getElem?
  intro b
  rw [fillD_get]
  by_cases hb : s = b
  · subst hb
    rw [hh]
    rw [List.getElem?_set_self (by rw [fillD_len]; exact (List.getElem?_eq_some_iff.1 hh).1)]
    simp only [Option.map_some, fillB_hole, hs, plus1_self, cond_true]
  · rw [List.getElem?_set_ne hb, fillD_get]
    congr 1
    funext x
    cases x with
    | hole =>
      simp only [fillB_hole]
      cases he : slotD 0 Ds b with
      | none => rfl
      | some jc =>
        obtain ⟨j, c'⟩ := jc
        have : j ≠ i := by
          rintro rfl
          exact hb (hu b c' he).symm
        simp only [plus1_ne this]
    | _ => rfl
end Go.Am
/- AN ABSTRACT MACHINE. Part 28: one operation of a region that draws its order: it goes as told. -/
namespace Go.Am
theorem slotD_of : ∀ (l : List Dn) (k b j : Nat) (c : ABlk), slotD k l b = some (j, c) → ∃ x, l[j - k]? = some x ∧ k ≤ j ∧ x.kind = 1 ∧ x.slot = b ∧ x.blk = c
  | [], k, b, j, c, h => by simp [slotD] at h
  | y :: l, k, b, j, c, h => by
    simp only [slotD] at h
    cases hb : (Nat.beq y.kind 1 && Nat.beq y.slot b) with
    | true =>
      simp only [hb, cond_true, Option.some.injEq, Prod.mk.injEq] at h
      simp only [Bool.and_eq_true] at hb
      obtain ⟨rfl, rfl⟩ := h
      exact ⟨y, by simp, Nat.le_refl _, Nat.eq_of_beq_eq_true hb.1, Nat.eq_of_beq_eq_true hb.2, rfl⟩
    | false =>
      simp only [hb, cond_false] at h
      obtain ⟨x, h1, h2, h3⟩ := slotD_of l _ _ _ _ h
      refine ⟨x, ?_, by omega, h3⟩
      have : j - k = (j - (k + 1)) + 1 := by omega
      rw [this, List.getElem?_cons_succ]
      exact h1
theorem Far.other {es : List Nat} {p : Nat → Bool} {m i : Nat} (h : Far es p m) (hi : i ∉ es) : Far es (plus1 p i) m :=
  ⟨h.1, fun k e he => by
    have hne : e ≠ i := fun hx => by rw [hx] at he; exact hi (List.mem_of_getElem? he)
    rw [plus1_ne hne]
    exact h.2 k e he⟩
theorem put_undef {g : Nat} {G : Globs} {L : Nat → Loc} {fr : List AVal} {H : AHeap} {ds : List Deferred} {a : Act} {w : World} (T : Told g G L fr H ds a w) (dst : Option Tmp) : Told g G L (setA fr dst undefA) H ds (a.put dst undef) w :=
  T.put (Step.refl T.sim) (v := undefA) trivial dst fun h => by cases h
theorem placeOf_ok {es : List Nat} {i : Nat} (h : placeOf es i < es.length) : es[placeOf es i]? = some i := by
  have h1 := List.getElem?_eq_getElem h
  have h2 := upTo_at _ es _ h1
  simp only [Bool.not_eq_false'] at h2
  rw [h1, Nat.eq_of_beq_eq_true h2]
theorem opD_wp {E : Env} {g : Nat} (hE : EnvOk E g) {ro : Bool} {tm : List Nat} {ops : Array Oper} {fr0 : List AVal} {Ds : List Dn} {es : List Nat} {HT : List AHeap} {i : Nat} {o : Oper} {d : Dn} {c : List Cond}
    (hch : chkO E ro tm ops fr0 Ds es HT i o d = some c) (hc : All c) (hd : Ds[i]? = some d) (hop : ops[i]? = some o) {p : Nat → Bool} {m : Nat} (hp : Down ops p) (hfar : Far es p m) (hi : p i = false) (hpre : ∀ x ∈ preOf o, p x = true)
    {ds : List Deferred} {L : Nat → Loc} {a : Act} {w : World} (T : Told g E.G L (frP 0 Ds p fr0) (fillD Ds p (nthH HT m)) ds a w) {K : Act → World → Prop} {Q : Exit → Act → World → Prop}
    (hK : ∀ m' L' a' w', Far es (plus1 p i) m' → Told g E.G L' (frP 0 Ds (plus1 p i) fr0) (fillD Ds (plus1 p i) (nthH HT m')) ds a' w' → Step g L (fillD Ds p (nthH HT m)) w L' (fillD Ds (plus1 p i) (nthH HT m')) w' → K a' w') :
    wpOp E.P ops Q i K a w := by
  unfold chkO at hch
  simp only [guardL_eq (lookP_ok Ds (fun x => inM x (ancM ops i)) fr0), argsL_eq (lookP_ok Ds (fun x => inM x (ancM ops i)) fr0)] at hch
  cases hS : chkS ops Ds i o d with
  | false => simp [hS] at hch
  | true =>
  simp only [hS, cond_true] at hch
  split at hch
  case h_2 => cases hch
  rename_i c0 hdec
  have hanc := chkS_anc hS hp hpre
  have hsame := chkS_frame hS hp hanc hi fr0
  obtain ⟨hdst, hdd⟩ := chkS_dst hS
  have hframe : frP 0 Ds (plus1 p i) fr0 = setA (frP 0 Ds p fr0) o.dst d.v := by
    rw [← hdst]
    exact frP_add Ds 0 i d fr0 hd (by rw [Nat.zero_add]; exact hi) (by rw [Nat.zero_add]; exact plus1_self p i) (fun j hj => plus1_ne (by omega)) hdd
  have hpq : ∀ x, inM x (ancM ops i) = true → p x = true := hanc
  unfold wpOp
  simp only [hop]
  rw [← guardD_same hsame] at hch
  split at hch
  · -- not wanted
    rename_i hg
    rw [guardD_ok hg T.frame]
    simp only [Bool.false_eq_true, if_false]
    obtain ⟨hb, h2⟩ := bif_some hch
    simp only [Option.some.injEq] at h2
    subst h2
    simp only [Bool.and_eq_true, Bool.not_eq_true'] at hb
    obtain ⟨hc0, hc1⟩ := (All_append _ _).1 hc
    have hv := decC_ok hdec hc0
    have hu : undefA = d.raw := hc1.1
    have hne : i ∉ es := fun hm => by have := memB_ok.2 hm; rw [hb.2] at this; cases this
    have hk : d.kind ≠ 1 := by rw [Nat.eq_of_beq_eq_true hb.1]; decide
    refine hK m L _ w (hfar.other hne) ?_ ?_
    · rw [hframe, fillD_plus hd hk, hv, ← hu]
      exact put_undef T o.dst
    · rw [fillD_plus hd hk]
      exact Step.refl T.sim
  · rename_i hg
    rw [guardD_ok hg T.frame]
    simp only [if_true]
    left
    rw [← argsOf_same hsame] at hch
    split at hch
    case h_3 => cases hch
    · rename_i v hxs
      obtain ⟨hb, h2⟩ := bif_some hch
      simp only [Option.some.injEq] at h2
      subst h2
      simp only [Bool.and_eq_true, Bool.not_eq_true'] at hb
      obtain ⟨hc0, hc1⟩ := (All_append _ _).1 hc
      have hv := decC_ok hdec hc0
      have hu : v = d.raw := hc1.1
      have hne : i ∉ es := fun hm => by have := memB_ok.2 hm; rw [hb.2] at this; cases this
      have hk : d.kind ≠ 1 := by rw [Nat.eq_of_beq_eq_true hb.1]; decide
      obtain ⟨h1, h2⟩ := argsOf_val T.frame T.ok hxs E.P w
      unfold Oper.wp
      rw [h1]
      refine hK m L _ w (hfar.other hne) ?_ ?_
      · rw [hframe, fillD_plus hd hk, hv, ← hu]
        exact T.put (Step.refl T.sim) h2 o.dst fun _ => rfl
      · rw [fillD_plus hd hk]
        exact Step.refl T.sim
    rename_i xs hxs
    have hev := argsOf_xs T.frame T.ok hxs
    cases hdeed : isDeed o.op with
    | true =>
      simp only [hdeed, cond_true] at hch
      obtain ⟨hb, h2⟩ := bif_some hch
      simp only [Bool.and_eq_true] at hb
      obtain ⟨hk2, hlt, htake, hnd, hsl⟩ := hb
      rw [Nat.blt_eq] at hlt
      have hesi := placeOf_ok hlt
      have hmk : m = placeOf es i := by
        have h1 : ¬ placeOf es i < m := fun h => by
          have := (hfar.2 _ _ hesi).2 h
          rw [hi] at this
          cases this
        have h3 : placeOf es i ≤ m := by
          refine Classical.byContradiction fun hlt2 => ?_
          have hlt2 : m < placeOf es i := by omega
          have hmlt : m < es.length := Nat.lt_trans hlt2 hlt
          have he := List.getElem?_eq_getElem hmlt
          have hin : es[m] ∈ es.take (placeOf es i) := by
            rw [List.mem_take_iff_getElem]
            exact ⟨m, by omega, rfl⟩
          have := hpq _ (allB_ok htake _ hin)
          have := (hfar.2 _ _ he).1 this
          omega
        omega
      rw [← hmk] at h2 hsl
      split at h2
      case h_2 => cases h2
      rename_i v V' c1 hst
      split at h2
      case h_2 => cases h2
      rename_i c1' hk
      simp only [Option.some.injEq] at h2
      subst h2
      obtain ⟨hc0, hc12⟩ := (All_append _ _).1 hc
      obtain ⟨hc1, hc2⟩ := (All_append _ _).1 hc12
      have hv := decC_ok hdec hc0
      have hvr : v = d.raw := hc2.1
      have hV : V' = nthH HT (m + 1) := hc2.2.1
      have hca := keep_ok hk hc1
      have hne : d.kind ≠ 1 := by rw [Nat.eq_of_beq_eq_true hk2]; decide
      have hfar' : Far es (plus1 p i) (m + 1) := by
        refine ⟨by omega, ?_⟩
        intro k e he
        by_cases hke : k = m
        · subst hke
          have : e = i := by
            rw [← hmk, he] at hesi
            exact Option.some.inj hesi
          rw [this, plus1_self]
          simp
        · have hei : e ≠ i := by
            rintro rfl
            have h3 := (List.getElem?_eq_some_iff.1 he).1
            have h4 : es[k]? = es[placeOf es e]? := by rw [he, hesi]
            have := (List.getElem?_inj h3 (nodupB_ok hnd)).1 h4
            omega
          rw [plus1_ne hei, hfar.2 k e he]
          omega
      have key : ∃ V2, stepL E o.op xs (fillD Ds p (nthH HT m)) = some (v, V2, c1) ∧ ((∀ b, Th (fillD Ds p (nthH HT m)) b → Th V2 b) → V2 = fillD Ds p V') := by
        have hF := Fills.fill hpq (Ds := Ds) (nthH HT m)
        have gen : ∀ {F : Spec} {ys : List AVal}, localF F ys (fillD Ds (fun x => inM x (ancM ops i)) (nthH HT m)) = some (v, V', c1) → ∃ V2, localF F ys (fillD Ds p (nthH HT m)) = some (v, V2, c1) ∧ ((∀ b, Th (fillD Ds p (nthH HT m)) b → Th V2 b) → V2 = fillD Ds p V') := by
          intro F ys hl
          obtain ⟨rs, r0, H0, lo, hK2⟩ := localF_lo hF hl
          exact ⟨_, hK2, fun hth => lo.deed hpq (slotsLt_ok hsl) hth⟩
        unfold stepL at hst ⊢
        split at hst
        · split at hst
          · split at hst
            · exact gen hst
            · cases hst
          · cases hst
        · split at hst
          · split at hst
            · split at hst
              · exact gen hst
              · cases hst
            · cases hst
          · cases hst
        · exact gen hst
      obtain ⟨V2, hst2, hV2⟩ := key
      refine stepL_wp hE T.sim T.glob hev.1 hev.2 hst2 hca ?_
      intro L' w' hs hvok
      have hV2 := hV2 hs.th
      refine hK (m + 1) L' _ w' hfar' ?_ ?_
      · rw [hframe, fillD_plus hd hne, hv, ← hvr, ← hV, ← hV2]
        exact T.put hs hvok o.dst fun _ => rfl
      · rw [fillD_plus hd hne, ← hV, ← hV2]
        exact hs
    | false =>
      simp only [hdeed, cond_false] at hch
      obtain ⟨hb, h2⟩ := bif_some hch
      simp only [Bool.and_eq_true, Bool.not_eq_true'] at hb
      obtain ⟨hnm, hkind, hlh⟩ := hb
      have hne : i ∉ es := fun hm => by have := memB_ok.2 hm; rw [hnm] at this; cases this
      have hlh := Nat.le_of_ble_eq_true hlh
      unfold okV at h2
      split at h2
      case h_2 => cases h2
      rename_i cw hw
      simp only [Option.some.injEq] at h2
      subst h2
      obtain ⟨hc0, hc1⟩ := (All_append _ _).1 hc
      have hv := decC_ok hdec hc0
      obtain ⟨c1, hw1, hca⟩ := winAll_at _ _ m _ hw hc1 (hfar.lo hanc) (by have := hfar.hi hp hi; omega)
      unfold winOne at hw1
      simp only at hw1
      split at hw1
      case h_2 => cases hw1
      rename_i v V' c2 hl
      split at hw1
      case h_2 => cases hw1
      rename_i c2' hk
      have hF := Fills.fill hpq (Ds := Ds) (nthH HT m)
      unfold localV at hl
      obtain ⟨rs, r0, H0, lo, hK2⟩ := localF_lo hF hl
      have hsh := opV_shape hdeed lo.run
      obtain ⟨e, hH0, he1⟩ := hsh
      have hKe := lo.quiet hF e hH0
      have hVe : V' = (fillD Ds (fun x => inM x (ancM ops i)) (nthH HT m)) ++ e.map (ABlk.ren (back rs (fillD Ds (fun x => inM x (ancM ops i)) (nthH HT m)).length)) := by
        rw [lo.heap]
        exact lo.quiet ⟨rfl, fun _ _ h _ => h⟩ e hH0
      have hlenV : (fillD Ds (fun x => inM x (ancM ops i)) (nthH HT m)).length = (fillD Ds p (nthH HT m)).length := by rw [fillD_len, fillD_len]
      rw [hlenV] at hVe
      generalize he' : e.map (ABlk.ren (back rs (fillD Ds p (nthH HT m)).length)) = e' at hKe hVe
      have he2 : e'.length ≤ 1 := by rw [← he', List.length_map]; exact he1
      have hexec : localV E o.op xs (fillD Ds p (nthH HT m)) = some (v, fillD Ds p (nthH HT m) ++ e', c2) := by
        unfold localV
        rw [hK2, hKe]
      cases hk0 : Nat.beq d.kind 0 with
      | true =>
        simp only [hk0, cond_true] at hw1
        obtain ⟨hlen, hw2⟩ := bif_some hw1
        have hlen := Nat.eq_of_beq_eq_true hlen
        simp only [Option.some.injEq] at hw2
        subst hw2
        obtain ⟨hc2, hc3⟩ := (All_append _ _).1 hca
        have hvr : v = d.raw := hc3.1
        have he0 : e' = [] := by
          rw [hVe, List.length_append] at hlen
          exact List.eq_nil_of_length_eq_zero (by omega)
        rw [he0, List.append_nil] at hexec
        have hkn : d.kind ≠ 1 := by rw [Nat.eq_of_beq_eq_true hk0]; decide
        refine Goes.wp (localV_ok T.sim T.glob hev.1 hev.2 hexec (keep_ok hk hc2)) ?_
        intro L' w' hs hvok
        refine hK m L' _ w' (hfar.other hne) ?_ ?_
        · rw [hframe, fillD_plus hd hkn, hv, ← hvr]
          exact T.put hs hvok o.dst fun _ => rfl
        · rw [fillD_plus hd hkn]
          exact hs
      | false =>
        simp only [hk0, Bool.false_or] at hkind
        simp only [Bool.and_eq_true] at hkind
        simp only [hk0, cond_false] at hw1
        split at hw1
        case h_2 => cases hw1
        rename_i b hbn
        obtain ⟨hbm, hw2⟩ := bif_some hw1
        simp only [Bool.and_eq_true] at hbm
        obtain ⟨hmade, hhole, hlen⟩ := hbm
        have hlen := Nat.eq_of_beq_eq_true hlen
        simp only [Option.some.injEq] at hw2
        subst hw2
        obtain ⟨hc2, hc3⟩ := (All_append _ _).1 hca
        have hvr : AVal.ren _ v = d.raw := hc3.1
        have hbr : [ABlk.ren _ b] = [d.blk] := hc3.2.1
        simp only [List.cons.injEq, and_true] at hbr
        have he0 : e' = [b] := by
          rw [hVe, List.length_append] at hlen
          rw [hVe, List.getElem?_append_right (Nat.le_refl _), Nat.sub_self] at hbn
          match e', hbn, he2 with
          | [x], hbn, _ => simp only [List.getElem?_cons_zero, Option.some.injEq] at hbn; rw [hbn]
        rw [he0] at hexec
        have hslot : slotD 0 Ds d.slot = some (i, d.blk) := by
          have h3 := hkind.2
          split at h3
          · rename_i j cj hj
            obtain ⟨x, h4, _, _, h5, h6⟩ := slotD_of _ _ _ _ _ hj
            have hji := Nat.eq_of_beq_eq_true h3
            subst hji
            rw [Nat.sub_zero, hd] at h4
            simp only [Option.some.injEq] at h4
            rw [hj, ← h6, h4]
          · cases h3
        have huniq : ∀ b c', slotD 0 Ds b = some (i, c') → b = d.slot := by
          intro b c' hb
          obtain ⟨x, h4, _, _, h5, h6⟩ := slotD_of _ _ _ _ _ hb
          rw [Nat.sub_zero, hd] at h4
          simp only [Option.some.injEq] at h4
          rw [h4, h5]
        have hh : (nthH HT m)[d.slot]? = some .hole := by
          unfold holeAt at hhole
          split at hhole
          · assumption
          · cases hhole
        have hhK : (fillD Ds p (nthH HT m))[d.slot]? = some .hole := by
          rw [fillD_get, hh]
          simp only [Option.map_some, fillB_hole, hslot, hi, cond_false]
        refine Goes.wp (localV_ok T.sim T.glob hev.1 hev.2 hexec (keep_ok hk hc2)) ?_
        intro L' w' hs hvok
        obtain ⟨L2, hs2, hr2⟩ := hs.toHole T.sim hhK hmade
        obtain ⟨q1, q2⟩ := hr2 v hvok
        simp only [← hlenV, hbr] at hs2 q1 q2
        rw [hvr] at q1 q2
        rw [← q1]
        have hfm := fillD_make (p := p) hslot huniq hh
        refine hK m L2 _ w' (hfar.other hne) ?_ ?_
        · rw [hframe, hfm, hv]
          exact T.put hs2 q2 o.dst fun _ => rfl
        · rw [hfm]
          exact hs2
  · cases hch
end Go.Am
/- AN ABSTRACT MACHINE. Part 29: regions that draw their order. -/
namespace Go.Am
def chkAll (E : Env) (ro : Bool) (tm : List Nat) (ops : Array Oper) (fr0 : List AVal) (Ds : List Dn) (es : List Nat) (HT : List AHeap) : Nat → List Oper → List Dn → Option (List Cond)
  | _, [], [] => some []
  | i, o :: os, d :: ds => match chkO E ro tm ops fr0 Ds es HT i o d with
    | some c => okV (chkAll E ro tm ops fr0 Ds es HT (i + 1) os ds) c
    | none => none
  | _, _, _ => none
theorem chkAll_ok {E : Env} {ro : Bool} {tm : List Nat} {ops : Array Oper} {fr0 : List AVal} {Ds : List Dn} {es : List Nat} {HT : List AHeap} : ∀ (os : List Oper) (ds : List Dn) (k : Nat) (c : List Cond), chkAll E ro tm ops fr0 Ds es HT k os ds = some c → All c →
    os.length = ds.length ∧ ∀ (i : Nat) (o : Oper) (d : Dn), os[i]? = some o → ds[i]? = some d → ∃ c1, chkO E ro tm ops fr0 Ds es HT (k + i) o d = some c1 ∧ All c1
  | [], [], k, c, h, hc => ⟨rfl, fun i o d h => by simp at h⟩
  | [], d :: ds, k, c, h, hc => by simp [chkAll] at h
  | o :: os, [], k, c, h, hc => by simp [chkAll] at h
  | o :: os, d :: ds, k, c, h, hc => by
    simp only [chkAll] at h
    split at h
    · rename_i c1 h1
      unfold okV at h
      split at h
      · rename_i c2 h2
        simp only [Option.some.injEq] at h
        subst h
        obtain ⟨ha, hb⟩ := (All_append _ _).1 hc
        obtain ⟨h3, h4⟩ := chkAll_ok os ds (k + 1) c2 h2 hb
        refine ⟨by simp [h3], ?_⟩
        intro i o' d' ho' hd'
        cases i with
        | zero =>
          simp only [List.getElem?_cons_zero, Option.some.injEq] at ho' hd'
          subst ho' hd'
          exact ⟨c1, h1, ha⟩
        | succ i =>
          have := h4 i o' d' (by simpa using ho') (by simpa using hd')
          rw [Nat.add_assoc, Nat.add_comm 1 i] at this
          exact this
      · cases h
    · cases h
/- COUNTING -/
def cntF : List Bool → Nat
  | [] => 0
  | true :: l => cntF l
  | false :: l => cntF l + 1
theorem cntF_set : ∀ (l : List Bool) (i : Nat), l[i]? = some false → cntF (l.set i true) + 1 = cntF l
  | [], i, h => by simp at h
  | b :: l, 0, h => by
    simp only [List.getElem?_cons_zero, Option.some.injEq] at h
    subst h
    rfl
  | b :: l, i + 1, h => by
    have := cntF_set l i (by simpa using h)
    cases b <;> simp only [List.set_cons_succ, cntF] <;> omega
theorem cntF_zero : ∀ (l : List Bool) (i : Nat), cntF l = 0 → i < l.length → l[i]? = some true
  | [], i, _, h => by simp at h
  | false :: l, i, h, _ => by simp [cntF] at h
  | true :: l, 0, _, _ => rfl
  | true :: l, i + 1, h, hi => by
    simp only [cntF] at h
    simpa using cntF_zero l i h (by simpa using hi)
def pOf (listed : Array Bool) : Nat → Bool := fun j => listed.getD j false
theorem pOf_set {listed : Array Bool} {i : Nat} (hi : i < listed.size) : pOf (listed.setIfInBounds i true) = plus1 (pOf listed) i := by
  funext j
  by_cases hj : j = i
  · subst hj
    rw [plus1_self]
    simp [pOf, hi]
  · rw [plus1_ne hj]
    exact getD_set_ne false (fun e => hj e.symm)
theorem listed_of {listed : Array Bool} {i : Nat} (h : listed.getD i true = false) : listed.toList[i]? = some false ∧ i < listed.size ∧ pOf listed i = false := by
  rcases Nat.lt_or_ge i listed.size with hi | hi
  · have e : listed[i]? = some listed[i] := Array.getElem?_eq_getElem hi
    have h2 : listed[i] = false := by simpa [Array.getD_eq_getD_getElem?, e] using h
    refine ⟨by simp [hi, h2], hi, by simp [pOf, Array.getD_eq_getD_getElem?, e, h2]⟩
  · simp [Array.getD_eq_getD_getElem?, Array.getElem?_eq_none hi] at h
theorem preOf_ok {o : Oper} {x : Nat} : x ∈ preOf o ↔ ∃ e ∈ o.after, Region.binds .any e = true ∧ e.on = x := by
  unfold preOf
  simp only [List.mem_map, List.mem_filter, Array.mem_toList_iff]
  constructor
  · rintro ⟨e, ⟨h1, h2⟩, h3⟩; exact ⟨e, h1, h2, h3⟩
  · rintro ⟨e, h1, h2, h3⟩; exact ⟨e, ⟨h1, h2⟩, h3⟩
section
variable {E : Env} {g : Nat} {ro : Bool} {tm : List Nat} {ops : Array Oper} {fr0 : List AVal} {Ds : List Dn} {es : List Nat} {HT : List AHeap}
theorem chkO_S {i : Nat} {o : Oper} {d : Dn} {c : List Cond} (h : chkO E ro tm ops fr0 Ds es HT i o d = some c) : chkS ops Ds i o d = true := by
  unfold chkO at h
  cases hS : chkS ops Ds i o d with
  | true => rfl
  | false => simp [hS] at h
/-- all checks -/
structure Chk (E : Env) (ro : Bool) (tm : List Nat) (ops : Array Oper) (fr0 : List AVal) (Ds : List Dn) (es : List Nat) (HT : List AHeap) : Prop where
  len : ops.size = Ds.length
  each : ∀ (i : Nat) (o : Oper) (d : Dn), ops[i]? = some o → Ds[i]? = some d → ∃ c1, chkO E ro tm ops fr0 Ds es HT i o d = some c1 ∧ All c1
  es : ∀ e ∈ es, e < ops.size
theorem Chk.get (C : Chk E ro tm ops fr0 Ds es HT) {i : Nat} {o : Oper} (ho : ops[i]? = some o) : ∃ d c, Ds[i]? = some d ∧ chkO E ro tm ops fr0 Ds es HT i o d = some c ∧ All c := by
  have hi : i < Ds.length := by rw [← C.len]; exact (Array.getElem?_eq_some_iff.1 ho).1
  obtain ⟨c, h1, h2⟩ := C.each i o _ ho (List.getElem?_eq_getElem hi)
  exact ⟨_, c, List.getElem?_eq_getElem hi, h1, h2⟩
theorem Chk.pre (C : Chk E ro tm ops fr0 Ds es HT) {i : Nat} {o : Oper} (ho : ops[i]? = some o) {x : Nat} (hx : x ∈ preOf o) : x < i := by
  obtain ⟨d, c, _, h, _⟩ := C.get ho
  have := chkO_S h
  simp only [chkS, Bool.and_eq_true] at this
  have := allB_ok this.2.1 x hx
  rwa [Nat.blt_eq] at this
theorem Chk.all (C : Chk E ro tm ops fr0 Ds es HT) {listed : Array Bool} (hsz : listed.size = ops.size) (h : Region.ready .any ops listed = []) : ∀ j, j < ops.size → pOf listed j = true := by
  intro j
  induction j using Nat.strongRecOn with
  | ind j ih =>
    intro hj
    cases hp : pOf listed j with
    | true => rfl
    | false =>
      exfalso
      have ho : ops[j]? = some ops[j] := Array.getElem?_eq_getElem hj
      have : j ∈ Region.ready .any ops listed := by
        rw [mem_ready]
        refine ⟨?_, _, ho, ?_⟩
        · have hlt : j < listed.size := by rw [hsz]; exact hj
          have e : listed[j]? = some listed[j] := Array.getElem?_eq_getElem hlt
          simpa [pOf, Array.getD_eq_getD_getElem?, e] using hp
        · intro e he hb
          have hlt := C.pre ho (preOf_ok.2 ⟨e, he, hb, rfl⟩)
          exact ih e.on hlt (Nat.lt_trans hlt hj)
      rw [h] at this
      cases this
theorem drawn_ok (hE : EnvOk E g) (C : Chk E ro tm ops fr0 Ds es HT) {ds : List Deferred} {Q : Exit → Act → World → Prop} {L0 : Nat → Loc} {H0 : AHeap} {w0 : World}
    (hQ : ∀ L a w, Told g E.G L (frP 0 Ds (fun _ => true) fr0) (fillD Ds (fun _ => true) (nthH HT es.length)) ds a w → Step g L0 H0 w0 L (fillD Ds (fun _ => true) (nthH HT es.length)) w → Q .normal a w) :
    ∀ (fuel : Nat) (listed : Array Bool) (m : Nat) (L : Nat → Loc) (a : Act) (w : World), listed.size = ops.size → cntF listed.toList = fuel → Down ops (pOf listed) → Far es (pOf listed) m →
      Told g E.G L (frP 0 Ds (pOf listed) fr0) (fillD Ds (pOf listed) (nthH HT m)) ds a w → Step g L0 H0 w0 L (fillD Ds (pOf listed) (nthH HT m)) w → wpAny E.P .any ops Q fuel listed a w := by
  have fin : ∀ (listed : Array Bool) (m : Nat) (L : Nat → Loc) (a : Act) (w : World), (∀ j, j < ops.size → pOf listed j = true) → Far es (pOf listed) m →
      Told g E.G L (frP 0 Ds (pOf listed) fr0) (fillD Ds (pOf listed) (nthH HT m)) ds a w → Step g L0 H0 w0 L (fillD Ds (pOf listed) (nthH HT m)) w → Q .normal a w := by
    intro listed m L a w hall hfar T k
    have hm : m = es.length := by
      refine Classical.byContradiction fun hne => ?_
      have hlt : m < es.length := by have := hfar.1; omega
      have he := List.getElem?_eq_getElem hlt
      have := (hfar.2 m _ he).1 (hall _ (C.es _ (List.getElem_mem hlt)))
      omega
    subst hm
    rw [frP_congr (q := fun _ => true) Ds 0 fr0 (fun i hi => by rw [Nat.zero_add]; exact hall i (by rw [C.len]; exact hi))] at T
    rw [fillD_congr (q := fun _ => true) (fun i hi => hall i (by rw [C.len]; exact hi))] at T k
    exact hQ L a w T k
  intro fuel
  induction fuel with
  | zero =>
    intro listed m L a w hsz hcnt hdown hfar T k
    have hall : ∀ j, j < ops.size → pOf listed j = true := by
      intro j hj
      have := cntF_zero listed.toList j hcnt (by rw [Array.length_toList, hsz]; exact hj)
      simp at this
      simp [pOf, Array.getD_eq_getD_getElem?, this]
    refine ⟨?_, fin listed m L a w hall hfar T k⟩
    apply List.eq_nil_iff_forall_not_mem.2
    intro j hj
    obtain ⟨h1, _⟩ := mem_ready.1 hj
    obtain ⟨_, h2, h3⟩ := listed_of h1
    rw [hall j (by rw [← hsz]; exact h2)] at h3
    cases h3
  | succ fuel ih =>
    intro listed m L a w hsz hcnt hdown hfar T k
    refine ⟨fun hr => fin listed m L a w (C.all hsz hr) hfar T k, ?_⟩
    intro i hi
    obtain ⟨h1, o, ho, h2⟩ := mem_ready.1 hi
    obtain ⟨h3, h4, h5⟩ := listed_of h1
    obtain ⟨d, c, hd, hch, hc⟩ := C.get ho
    have hpre : ∀ x ∈ preOf o, pOf listed x = true := by
      intro x hx
      obtain ⟨e, he, hb, rfl⟩ := preOf_ok.1 hx
      exact h2 e he hb
    refine opD_wp hE hch hc hd ho hdown hfar h5 hpre T ?_
    intro m' L' a' w' hfar' T' k'
    have hanc := chkS_anc (chkO_S hch) hdown hpre
    rw [← pOf_set h4] at hfar' T' k'
    refine ih _ m' L' a' w' (by rw [Array.size_setIfInBounds]; exact hsz) ?_ ?_ hfar' T' (k.trans k')
    · have := cntF_set listed.toList i h3
      rw [Array.toList_setIfInBounds]
      omega
    · rw [pOf_set h4]
      intro j hpj y hy
      by_cases hji : j = i
      · subst hji
        exact plus1_mono (hanc y hy)
      · rw [plus1_ne hji] at hpj
        exact plus1_mono (hdown j hpj y hy)
end
theorem Step.holes {g : Nat} {L : Nat → Loc} {H : AHeap} {w : World} (h : Sim g L H w) (n : Nat) : Step g L H w L (H ++ List.replicate n .hole) w := by
  have part : ∀ (b : Nat) (x : ABlk), (H ++ List.replicate n .hole)[b]? = some x → H[b]? = some x ∨ x = .hole := by
    intro b x hx
    rcases Nat.lt_or_ge b H.length with hb | hb
    · rw [List.getElem?_append_left hb] at hx; exact .inl hx
    · rw [List.getElem?_append_right hb, List.getElem?_replicate] at hx
      split at hx
      · exact .inr (Option.some.inj hx).symm
      · cases hx
  have hth : ∀ b, Th H b → Th (H ++ List.replicate n .hole) b := by
    rintro b ⟨x, h1, h2⟩
    exact ⟨x, by rw [List.getElem?_append_left (List.getElem?_eq_some_iff.1 h1).1]; exact h1, h2⟩
  refine ⟨fun _ _ => rfl, ⟨?_, ?_, ?_, ?_, h.gl⟩, by simp, hth, Kept.refl _ _ _, ?_⟩
  · intro b x hx
    rcases part b x hx with hb | rfl
    · exact h.blk b x hb
    · trivial
  · intro b x hx
    rcases part b x hx with hb | rfl
    · exact ABlk.ok_mono hth (h.ok b x hb)
    · trivial
  · intro b b' x x' hx hx' hl hl' he
    rcases part b x hx with hb | rfl
    · rcases part b' x' hx' with hb' | rfl
      · exact h.inj b b' x x' hb hb' hl hl' he
      · cases hl'
    · cases hl
  · intro b x hx hl
    rcases part b x hx with hb | rfl
    · exact h.above b x hb hl
    · cases hl
  · intro b x hx hl
    rcases part b x hx with hb | rfl
    · exact .inr ⟨b, x, hb, hl, rfl⟩
    · cases hl

/- THE FIRST PASS -/
def makes (op : Op) : Bool :=
  match op with
  | .alloc _ | .box _ _ | .buildSlice _ _ _ | .makeSlice _ _ _ | .convert _ _ _ => true
  | _ => false
structure P1 where
  Ds : List Dn
  es : List Nat
  H : AHeap
  HT : List AHeap
  path : List Bool
  slot : Nat
  dec : List Nat
def decide1 (tm : List Nat) (dst : Option Tmp) (v : AVal) (path : List Bool) (dec : List Nat) : Option (Option Bool × List Bool × List Nat) :=
  match dst with
  | some t => bif memB t tm then
      match v, path with
      | .bool _, b :: p => some (some b, p, t :: delN t dec)
      | .bool _, [] => none
      | _, _ => some (none, path, delN t dec)
    else some (none, path, delN t dec)
  | none => some (none, path, dec)
def pass1 (E : Env) (tm : List Nat) (ops : Array Oper) (fr0 : List AVal) : Nat → List Oper → P1 → Option P1
  | _, [], s => some s
  | i, o :: os, s =>
    let anc := ancM ops i
    let fr := lookP s.Ds (fun x => inM x anc) fr0
    match guardL fr ops o with
    | some false => pass1 E tm ops fr0 (i + 1) os ⟨s.Ds ++ [⟨0, o.dst, undefA, none, 0, .hole⟩], s.es, s.H, s.HT, s.path, s.slot, delO o.dst s.dec⟩
    | some true =>
      match argsL fr o.op with
      | some (.val v) => match decide1 tm o.dst v s.path s.dec with
        | some (dec, path, ds) => pass1 E tm ops fr0 (i + 1) os ⟨s.Ds ++ [⟨0, o.dst, v, dec, 0, .hole⟩], s.es, s.H, s.HT, path, s.slot, ds⟩
        | none => none
      | some (.xs xs) =>
        let V := fillD s.Ds (fun x => inM x anc) s.H
        bif isDeed o.op then
          match stepL E o.op xs V with
          | some (v, V', _) => match decide1 tm o.dst v s.path s.dec with
            | some (dec, path, ds) => pass1 E tm ops fr0 (i + 1) os ⟨s.Ds ++ [⟨2, o.dst, v, dec, 0, .hole⟩], s.es ++ [i], V', s.HT ++ [V'], path, s.slot, ds⟩
            | none => none
          | none => none
        else match localV E o.op xs V with
          | some (v, V', _) =>
            match V'[V.length]? with
            | none => match decide1 tm o.dst v s.path s.dec with
              | some (dec, path, ds) => pass1 E tm ops fr0 (i + 1) os ⟨s.Ds ++ [⟨0, o.dst, v, dec, 0, .hole⟩], s.es, s.H, s.HT, path, s.slot, ds⟩
              | none => none
            | some b => pass1 E tm ops fr0 (i + 1) os ⟨s.Ds ++ [⟨1, o.dst, v.ren (toS V.length s.slot), none, s.slot, b.ren (toS V.length s.slot)⟩], s.es, s.H, s.HT, s.path, s.slot + 1, delO o.dst s.dec⟩
          | none => none
      | none => none
    | none => none
def cntM : List Oper → Nat
  | [] => 0
  | o :: os => bif makes o.op then cntM os + 1 else cntM os
def runD (E : Env) (ro : Bool) (tm : List Nat) (ops : Array Oper) (st : St) : Option (St × List Cond) :=
  bif E.P.follows .mixedOrders then
    let Hs := st.H ++ List.replicate (cntM ops.toList) .hole
    match pass1 E tm ops st.fr 0 ops.toList ⟨[], [], Hs, [], st.path, st.H.length, st.dec⟩ with
    | some s =>
      bif Nat.beq ops.size s.Ds.length && allB (fun e => Nat.blt e ops.size) s.es then
        match chkAll E ro tm ops st.fr s.Ds s.es (Hs :: s.HT) 0 ops.toList s.Ds with
        | some c => some (⟨frP 0 s.Ds (fun _ => true) st.fr, fillD s.Ds (fun _ => true) (nthH (Hs :: s.HT) s.es.length), s.path, s.dec⟩, c)
        | none => none
      else none
    | none => none
  else none
theorem runD_ok {E : Env} {g : Nat} (hE : EnvOk E g) {ro : Bool} {tm : List Nat} {ops : Array Oper} {Q : Exit → Act → World → Prop} {ds : List Deferred} {st st' : St} {c : List Cond} {id : Nat} (h : runD E ro tm ops st = some (st', c)) (hc : All c)
    {L : Nat → Loc} {a : Act} {w : World} (T : Told g E.G L st.fr st.H ds a w)
    (hQ : ∀ L' a' w', Told g E.G L' st'.fr st'.H ds a' w' → Step g L st.H w L' st'.H w' → Q .normal a' w') : (Code.region id ops true).wp E.P Q a w := by
  unfold runD at h
  obtain ⟨hm, h⟩ := bif_some h
  simp only at h
  split at h
  case h_2 => cases h
  rename_i s hs
  obtain ⟨hb, h⟩ := bif_some h
  simp only [Bool.and_eq_true] at hb
  split at h
  case h_2 => cases h
  rename_i c1 hch
  simp only [Option.some.injEq, Prod.mk.injEq] at h
  obtain ⟨rfl, rfl⟩ := h
  have hlen := Nat.eq_of_beq_eq_true hb.1
  obtain ⟨_, hall⟩ := chkAll_ok _ _ _ _ hch hc
  have C : Chk E ro tm ops st.fr s.Ds s.es ((st.H ++ List.replicate (cntM ops.toList) .hole) :: s.HT) := by
    refine ⟨hlen, ?_, ?_⟩
    · intro i o d ho hd
      have := hall i o d (by simpa using ho) hd
      rw [Nat.zero_add] at this
      exact this
    · intro e he
      have := allB_ok hb.2 e he
      rwa [Nat.blt_eq] at this
  apply wp_region_any hm
  have k0 := Step.holes T.sim (cntM ops.toList)
  have k1 : Step g L (st.H ++ List.replicate (cntM ops.toList) .hole) w L (st.H ++ List.replicate (cntM ops.toList) .hole) w.drew := Step.drew k0.sim
  have k := k0.trans k1
  have hp0 : ∀ j, pOf (Array.replicate ops.size false) j = false := by
    intro j
    unfold pOf
    rw [Array.getD_eq_getD_getElem?, Array.getElem?_replicate]
    split <;> rfl
  have hfr : frP 0 s.Ds (pOf (Array.replicate ops.size false)) st.fr = st.fr := by
    have : ∀ (l : List Dn) (k : Nat), frP k l (pOf (Array.replicate ops.size false)) st.fr = st.fr := by
      intro l
      induction l with
      | nil => intro k; rfl
      | cons d l ih => intro k; simp only [frP, hp0, cond_false]; exact ih _
    exact this _ _
  have hH : fillD s.Ds (pOf (Array.replicate ops.size false)) (nthH ((st.H ++ List.replicate (cntM ops.toList) .hole) :: s.HT) 0) = st.H ++ List.replicate (cntM ops.toList) .hole := by
    apply List.ext_getElem?
    intro b
    rw [fillD_get]
    show ((st.H ++ List.replicate (cntM ops.toList) .hole)[b]?).map _ = _
    cases hx : (st.H ++ List.replicate (cntM ops.toList) ABlk.hole)[b]? with
    | none => rfl
    | some x =>
      simp only [Option.map_some, Option.some.injEq]
      cases x with
      | hole =>
        simp only [fillB_hole]
        cases slotD 0 s.Ds b with
        | none => rfl
        | some ic => simp only [hp0, cond_false]
      | _ => rfl
  have T' : Told g E.G L st.fr (st.H ++ List.replicate (cntM ops.toList) .hole) ds a w.drew := by
    have := T.put k (v := undefA) trivial none (x := undef) fun h => by cases h
    exact this
  refine drawn_ok hE C (L0 := L) (H0 := st.H) (w0 := w) hQ ops.size _ 0 L a w.drew (by simp) ?_ ?_ ?_ ?_ ?_
  · rw [Array.toList_replicate]
    generalize ops.size = n
    induction n with
    | zero => rfl
    | succ n ih => rw [List.replicate_succ]; simp only [cntF, ih]
  · intro i hp
    rw [hp0] at hp
    cases hp
  · refine ⟨Nat.zero_le _, ?_⟩
    intro k e _
    rw [hp0]
    simp
  · rw [hfr, hH]
    exact T'
  · rw [hH]
    exact k
end Go.Am
/- AN ABSTRACT MACHINE. Part 20: code. -/
namespace Go.Am
inductive AEx where
  | normal
  | exit (id : Nat)
  | ret
def AEx.ex : AEx → Exit
  | .normal => .normal
  | .exit id => .exit id
  | .ret => .ret
abbrev Sum := St → Option (AEx × St × List Cond)
def lookB : List (Nat × Sum) → Nat → Option Sum
  | [], _ => none
  | (k, F) :: l, f => bif Nat.beq k f then some F else lookB l f
/-- what is open in a function: the questions, the regions -/
structure Opn where
  tmps : List Nat
  regs : List Nat
def afterR (c0 : List Cond) : Option (AEx × St × List Cond) → Option (AEx × St × List Cond)
  | some (e, st, c) => some (e, st, c0 ++ c)
  | none => none
def condT (c : Operand) (op : List Nat) (st : St) : Option (Bool × St × List Cond) :=
  match c with
  | .tmp t =>
    match nthA st.fr t with
    | some (.bool b) => ask op st t b
    | _ => none
  | .const (.bool b) => some (b, st, [])
  | _ => none
def runC (E : Env) (O : Opn) (B : List (Nat × Sum)) : Nat → Code → Sum
  | 0, _, _ => none
  | n + 1, c, st =>
    match c with
    | .skip => some (.normal, st, [])
    | .label _ => some (.normal, st, [])
    | .exit id => some (.exit id, st, [])
    | .ret => some (.ret, st, [])
    | .region id ops false =>
      match runOps E O.tmps (memB id O.regs) ops ops.toList st with
      | some (st1, c) => some (.normal, st1, c)
      | none => none
    | .region id ops true =>
      match runD E (memB id O.regs) O.tmps ops st with
      | some (st1, c) => some (.normal, st1, c)
      | none => none
    | .seq a b =>
      match runC E O B n a st with
      | some (.normal, st1, c1) => afterR c1 (runC E O B n b st1)
      | r => r
    | .cond t x y =>
      match condT t O.tmps st with
      | some (b, st1, c0) => afterR c0 (runC E O B n (bif b then x else y) st1)
      | none => none
    | .block id c =>
      match lookB B id with
      | some S => S st
      | none =>
        match runC E O B n c st with
        | some (.exit i, st1, c1) => bif Nat.beq i id then some (.normal, st1, c1) else some (.exit i, st1, c1)
        | r => r
    | .loop c =>
      match runC E O B n c st with
      | some (.normal, st1, c1) => afterR c1 (runC E O B n (.loop c) st1)
      | r => r
    | _ => none
/-- where a function began -/
structure Base where
  L : Nat → Loc
  H : AHeap
  w : World
def Base.at (b : Base) (g : Nat) (L : Nat → Loc) (H : AHeap) (w : World) : Prop := Step g b.L b.H b.w L H w
def Post (E : Env) (g : Nat) (ds : List Deferred) (b : Base) (e : AEx) (st : St) : Exit → Act → World → Prop :=
  fun e' a' w' => e' = e.ex ∧ ∃ L', Told g E.G L' st.fr st.H ds a' w' ∧ b.at g L' st.H w'
def SumOk (E : Env) (g : Nat) (ds : List Deferred) (n0 : Nat) (c : Code) (S : Sum) : Prop :=
  ∀ (st : St) (e : AEx) (st' : St) (cs : List Cond), S st = some (e, st', cs) → All cs → ∀ (b : Base), b.H.length = n0 → ∀ (L : Nat → Loc) (a : Act) (w : World), Told g E.G L st.fr st.H ds a w → b.at g L st.H w → c.wp E.P (Post E g ds b e st') a w
def blocksOk (E : Env) (g : Nat) (ds : List Deferred) (n0 : Nat) (B : List (Nat × Sum)) : Code → Prop
  | .seq a b => blocksOk E g ds n0 B a ∧ blocksOk E g ds n0 B b
  | .cond _ x y => blocksOk E g ds n0 B x ∧ blocksOk E g ds n0 B y
  | .block id c => match lookB B id with
    | some S => SumOk E g ds n0 (.block id c) S
    | none => blocksOk E g ds n0 B c
  | .loop c => blocksOk E g ds n0 B c
  | _ => True
theorem afterR_some {c0 : List Cond} {r : Option (AEx × St × List Cond)} {e : AEx} {st : St} {c : List Cond} (h : afterR c0 r = some (e, st, c)) : ∃ c1, r = some (e, st, c1) ∧ c = c0 ++ c1 := by
  unfold afterR at h
  split at h
  · rename_i e' st' c'
    simp only [Option.some.injEq, Prod.mk.injEq] at h
    obtain ⟨rfl, rfl, rfl⟩ := h
    exact ⟨_, rfl, rfl⟩
  · cases h
theorem condT_ok {t : Operand} {op : List Nat} {st st' : St} {b : Bool} {c : List Cond} (h : condT t op st = some (b, st', c)) (hc : All c) {g : Nat} {G : Globs} {L : Nat → Loc} {ds : List Deferred} {a : Act} {w : World} (T : Told g G L st.fr st.H ds a w) :
    a.eval t = .bool b ∧ st'.H = st.H ∧ Told g G L st'.fr st'.H ds a w := by
  unfold condT at h
  split at h
  · rename_i t
    split at h
    · rename_i b0 hb
      obtain ⟨rfl, hH, hT⟩ := ask_ok h hc hb
      refine ⟨?_, hH, hT T⟩
      have := T.frame.get hb rfl
      simp only [Act.eval, Array.getD_eq_getD_getElem?, this, Option.getD_some, AVal.conc]
    · cases h
  · simp only [Option.some.injEq, Prod.mk.injEq] at h
    obtain ⟨rfl, rfl, rfl⟩ := h
    exact ⟨rfl, rfl, T⟩
  · cases h
/-- a loop's next round -/
def InLoop (P : Program) (c : Code) (Q : Exit → Act → World → Prop) (a : Act) (w : World) : Prop :=
  ∀ (b : Frame) (k : List Item) (cs : List Frame), ∃ e a' w', Q e a' w' ∧ Arrives P (lone (b.at a (.code c :: .inLoop c :: k)) cs w) b k cs e a' w'
theorem inLoop_loop {P : Program} {c : Code} {Q : Exit → Act → World → Prop} {a : Act} {w : World} (h : InLoop P c Q a w) : (Code.loop c).wp P Q a w := by
  intro b k cs
  obtain ⟨e, a', w', hq, harr⟩ := h b k cs
  exact ⟨e, a', w', hq, .of_steps (.one step_loop) harr⟩
theorem inLoop_round {P : Program} {c : Code} {Q : Exit → Act → World → Prop} {a : Act} {w : World} (h : c.wp P (Exit.then (InLoop P c Q) Q) a w) : InLoop P c Q a w := by
  intro b k cs
  obtain ⟨e, a₁, w₁, hq, harr⟩ := h b (.inLoop c :: k) cs
  cases e with
  | normal =>
    obtain ⟨e2, a2, w2, hq2, harr2⟩ := hq b k cs
    exact ⟨e2, a2, w2, hq2, .of_steps (Steps.trans harr (.one step_inLoop)) harr2⟩
  | exit id => exact ⟨_, a₁, w₁, hq, .pass (x := .inLoop c) rfl (fun _ _ => .inl (by simp)) harr⟩
  | goto l => exact ⟨_, a₁, w₁, hq, .pass (x := .inLoop c) rfl (fun _ _ => .inl (by simp)) harr⟩
  | ret => exact ⟨_, a₁, w₁, hq, .pass (x := .inLoop c) rfl (fun _ _ => .inl (by simp)) harr⟩
  | panic ch => exact ⟨_, a₁, w₁, hq, .pass (x := .inLoop c) rfl (fun _ _ => .inl (by simp)) harr⟩
  | outgrown => exact ⟨_, a₁, w₁, hq, .pass (x := .inLoop c) rfl (fun _ _ => .inl (by simp)) harr⟩
theorem runC_ok {E : Env} {g : Nat} (hE : EnvOk E g) {O : Opn} {B : List (Nat × Sum)} {ds : List Deferred} {n0 : Nat} : ∀ (n : Nat),
    (∀ (c : Code), blocksOk E g ds n0 B c → SumOk E g ds n0 c (runC E O B n c)) ∧
    (∀ (c : Code), blocksOk E g ds n0 B c → ∀ (st : St) (e : AEx) (st' : St) (cs : List Cond), runC E O B n (.loop c) st = some (e, st', cs) → All cs → ∀ (b : Base), b.H.length = n0 → ∀ (L : Nat → Loc) (a : Act) (w : World), Told g E.G L st.fr st.H ds a w → b.at g L st.H w → InLoop E.P c (Post E g ds b e st') a w)
  | 0 => ⟨fun c _ st e st' cs h => by simp [runC] at h, fun c _ st e st' cs h => by simp [runC] at h⟩
  | n + 1 => by
    have ih := runC_ok hE (O := O) (B := B) (ds := ds) (n0 := n0) n
    have hloop : ∀ (c : Code), blocksOk E g ds n0 B c → ∀ (st : St) (e : AEx) (st' : St) (cs : List Cond), runC E O B (n + 1) (.loop c) st = some (e, st', cs) → All cs → ∀ (b : Base), b.H.length = n0 → ∀ (L : Nat → Loc) (a : Act) (w : World), Told g E.G L st.fr st.H ds a w → b.at g L st.H w → InLoop E.P c (Post E g ds b e st') a w := by
      intro c hB st e st' cs h hc b hb L a w T k
      simp only [runC] at h
      apply inLoop_round
      split at h
      · rename_i st1 c1 h1
        obtain ⟨c2, h2, rfl⟩ := afterR_some h
        obtain ⟨hc1, hc2⟩ := (All_append _ _).1 hc
        refine wp_mono (ih.1 c hB st .normal st1 c1 h1 hc1 b hb L a w T k) ?_
        rintro e' a' w' ⟨rfl, L', T', k'⟩
        exact ih.2 c hB st1 e st' c2 h2 hc2 b hb L' a' w' T' k'
      · rename_i hne
        refine wp_mono (ih.1 c hB st e st' cs h hc b hb L a w T k) ?_
        rintro e' a' w' ⟨rfl, L', T', k'⟩
        cases e with
        | normal => exact absurd h (hne _ _)
        | exit id => exact ⟨rfl, L', T', k'⟩
        | ret => exact ⟨rfl, L', T', k'⟩
    refine ⟨?_, hloop⟩
    intro c hB st e st' cs h hc b hb L a w T k
    cases c with
    | skip =>
      simp only [runC, Option.some.injEq, Prod.mk.injEq] at h
      obtain ⟨rfl, rfl, rfl⟩ := h
      exact wp_skip ⟨rfl, L, T, k⟩
    | label l =>
      simp only [runC, Option.some.injEq, Prod.mk.injEq] at h
      obtain ⟨rfl, rfl, rfl⟩ := h
      exact wp_label ⟨rfl, L, T, k⟩
    | exit id =>
      simp only [runC, Option.some.injEq, Prod.mk.injEq] at h
      obtain ⟨rfl, rfl, rfl⟩ := h
      exact wp_exit ⟨rfl, L, T, k⟩
    | ret =>
      simp only [runC, Option.some.injEq, Prod.mk.injEq] at h
      obtain ⟨rfl, rfl, rfl⟩ := h
      exact wp_ret ⟨rfl, L, T, k⟩
    | region id ops draw =>
      cases draw with
      | true =>
        simp only [runC] at h
        split at h
        · rename_i st1 c1 h1
          simp only [Option.some.injEq, Prod.mk.injEq] at h
          obtain ⟨rfl, rfl, rfl⟩ := h
          refine runD_ok hE h1 hc T ?_
          intro L' a' w' T' k'
          exact ⟨rfl, L', T', Step.trans k k'⟩
        · cases h
      | false =>
        simp only [runC] at h
        split at h
        · rename_i st1 c1 h1
          simp only [Option.some.injEq, Prod.mk.injEq] at h
          obtain ⟨rfl, rfl, rfl⟩ := h
          refine wp_region_list (runOps_ok hE _ st st1 c1 h1 hc L a w T ?_)
          intro L' a' w' T' k'
          exact ⟨rfl, L', T', Step.trans k k'⟩
        · cases h
    | seq x y =>
      simp only [blocksOk] at hB
      simp only [runC] at h
      apply wp_seq
      split at h
      · rename_i st1 c1 h1
        obtain ⟨c2, h2, rfl⟩ := afterR_some h
        obtain ⟨hc1, hc2⟩ := (All_append _ _).1 hc
        refine wp_mono (ih.1 x hB.1 st .normal st1 c1 h1 hc1 b hb L a w T k) ?_
        rintro e' a' w' ⟨rfl, L', T', k'⟩
        exact ih.1 y hB.2 st1 e st' c2 h2 hc2 b hb L' a' w' T' k'
      · rename_i hne
        refine wp_mono (ih.1 x hB.1 st e st' cs h hc b hb L a w T k) ?_
        rintro e' a' w' ⟨rfl, L', T', k'⟩
        cases e with
        | normal => exact absurd h (hne _ _)
        | exit id => exact ⟨rfl, L', T', k'⟩
        | ret => exact ⟨rfl, L', T', k'⟩
    | cond t x y =>
      simp only [blocksOk] at hB
      simp only [runC] at h
      split at h
      · rename_i bt st1 c0 h1
        obtain ⟨c2, h2, rfl⟩ := afterR_some h
        obtain ⟨hc1, hc2⟩ := (All_append _ _).1 hc
        obtain ⟨he, hH, T1⟩ := condT_ok h1 hc1 T
        refine wp_cond he ?_
        rw [← hH] at k
        cases bt with
        | true => exact ih.1 x hB.1 st1 e st' c2 h2 hc2 b hb L a w T1 k
        | false => exact ih.1 y hB.2 st1 e st' c2 h2 hc2 b hb L a w T1 k
      · cases h
    | block id c =>
      simp only [runC] at h
      simp only [blocksOk] at hB
      split at h
      · rename_i S hS
        simp only [hS] at hB
        exact hB st e st' cs h hc b hb L a w T k
      · rename_i hS
        simp only [hS] at hB
        apply wp_block
        split at h
        · rename_i i st1 c1 h1
          have hw := ih.1 c hB st (.exit i) st1 c1 h1
          cases hbi : Nat.beq i id with
          | true =>
            simp only [hbi, cond_true, Option.some.injEq, Prod.mk.injEq] at h
            obtain ⟨rfl, rfl, rfl⟩ := h
            refine wp_mono (hw hc b hb L a w T k) ?_
            rintro e' a' w' ⟨rfl, L', T', k'⟩
            simp only [AEx.ex, Exit.inBlock, Nat.eq_of_beq_eq_true hbi, if_true]
            exact ⟨rfl, L', T', k'⟩
          | false =>
            simp only [hbi, cond_false, Option.some.injEq, Prod.mk.injEq] at h
            obtain ⟨rfl, rfl, rfl⟩ := h
            refine wp_mono (hw hc b hb L a w T k) ?_
            rintro e' a' w' ⟨rfl, L', T', k'⟩
            have hne : ¬ i = id := fun he => by subst he; simp at hbi
            simp only [AEx.ex, Exit.inBlock, if_neg hne]
            exact ⟨rfl, L', T', k'⟩
        · rename_i hne
          refine wp_mono (ih.1 c hB st e st' cs h hc b hb L a w T k) ?_
          rintro e' a' w' ⟨rfl, L', T', k'⟩
          cases e with
          | normal => exact ⟨rfl, L', T', k'⟩
          | exit id => exact absurd h (hne _ _ _)
          | ret => exact ⟨rfl, L', T', k'⟩
    | loop c => exact inLoop_loop (hloop c hB st e st' cs h hc b hb L a w T k)
    | rangeFunc f ps as b => simp [runC] at h
    | scope b => simp [runC] at h
    | goto l => simp [runC] at h
    | refuse s => simp [runC] at h
end Go.Am
/- AN ABSTRACT MACHINE. Part 21: a function. -/
namespace Go.Am
def resOne (P : Program) (G : Globs) (H : AHeap) (fr : List AVal) : ResultVar → Option (AVal × List Cond)
  | .tmp t => match nthA fr t with
    | some v => bif isU v then none else some (v, [])
    | none => none
  | .cell a t => match nthA fr a with
    | some (.ptr (some (b, o))) => loadA P G H t (.ptr (some (b, o)))
    | _ => none
def resAll (P : Program) (G : Globs) (H : AHeap) (fr : List AVal) : List ResultVar → Option (List AVal × List Cond)
  | [] => some ([], [])
  | x :: xs => match resOne P G H fr x with
    | some (v, c) => match resAll P G H fr xs with
      | some (vs, c') => some (v :: vs, c ++ c')
      | none => none
    | none => none
def oneOf : List AVal → AVal
  | [v] => v
  | vs => .tuple vs
theorem resAll_ok {g : Nat} {P : Program} {G : Globs} {L : Nat → Loc} {H : AHeap} {fr : List AVal} {ds : List Deferred} {a : Act} {w : World} (T : Told g G L fr H ds a w) {F : ResultVar → Sem Value} (hF1 : ∀ t, F (.tmp t) = pure (a.tmps.getD t undef)) (hF2 : ∀ x t, F (.cell x t) = do loadVar t (← asAddr (a.tmps.getD x undef))) :
    ∀ (rs : List ResultVar) (vs : List AVal) (c : List Cond), resAll P G H fr rs = some (vs, c) → All c → (rs.mapM (m := Sem) F).run P w = .ok (AVal.concs L vs) w ∧ AVal.oks (Th H) vs
  | [], vs, c, h, _ => by
    simp only [resAll, Option.some.injEq, Prod.mk.injEq] at h
    obtain ⟨rfl, rfl⟩ := h
    exact ⟨rfl, trivial⟩
  | x :: xs, vs, c, h, hc => by
    simp only [resAll] at h
    split at h
    · rename_i v c1 h1
      split at h
      · rename_i vs' c2 h2
        simp only [Option.some.injEq, Prod.mk.injEq] at h
        obtain ⟨rfl, rfl⟩ := h
        obtain ⟨hc1, hc2⟩ := (All_append _ _).1 hc
        obtain ⟨i1, i2⟩ := resAll_ok T hF1 hF2 xs vs' c2 h2 hc2
        cases x with
        | tmp t =>
          simp only [resOne] at h1
          split at h1
          · rename_i v' hv
            cases hu : isU v' with
            | true => simp [hu] at h1
            | false =>
            simp only [hu, cond_false, Option.some.injEq, Prod.mk.injEq] at h1
            obtain ⟨rfl, rfl⟩ := h1
            have hg := T.frame.get hv hu
            have hok : AVal.ok (Th H) v' := by
              rw [nthA_eq] at hv
              exact (AVal.oks_iff _ fr).1 T.ok v' (List.mem_of_getElem? hv)
            refine ⟨?_, hok, i2⟩
            rw [List.mapM_cons]
            refine run_bindq (v := AVal.conc L v') (by rw [hF1]; simp [Array.getD_eq_getD_getElem?, hg]) ?_
            exact run_bindq i1 rfl
          · cases h1
        | cell y t =>
          simp only [resOne] at h1
          split at h1
          · rename_i b o hv
            have hg := T.frame.get hv rfl
            have hl := loadA_ok T.sim T.glob h1 hc1
            refine ⟨?_, hl.2, i2⟩
            rw [List.mapM_cons]
            refine run_bindq (v := AVal.conc L v) ?_ ?_
            · rw [hF2]
              have h3 := hl.1
              unfold Instr.loadAt at h3
              simp only [Array.getD_eq_getD_getElem?, hg, Option.getD_some]
              exact h3
            · exact run_bindq i1 rfl
          · cases h1
      · cases h
    · cases h
theorem oneOf_run {g : Nat} {P : Program} {G : Globs} {L : Nat → Loc} {H : AHeap} {fr : List AVal} {ds : List Deferred} {a : Act} {w : World} (T : Told g G L fr H ds a w) {fn : Func} {vs : List AVal} {c : List Cond} (h : resAll P G H fr fn.results.toList = some (vs, c)) (hc : All c) :
    (results fn a.tmps).run P w = .ok (AVal.conc L (oneOf vs)) w := by
  unfold results
  rw [Array.mapM_eq_mapM_toList]
  rw [Sem.run_bind, Sem.run_map, (resAll_ok (P := P) T (fun t => rfl) (fun x t => rfl) _ _ _ h hc).1]
  simp only [Result.andThen_ok, Sem.run_pure]
  congr 1
  cases vs with
  | nil => rfl
  | cons v vs =>
    cases vs with
    | nil => rfl
    | cons u us =>
      exact dif_neg (by simp [AVal.concs])
/-- a function is run -/
def runF (E : Env) (O : Opn) (B : List (Nat × Sum)) (n : Nat) (fn : Func) (path : List Bool) : Spec := fun args H =>
  match fn.body with
  | some c =>
    match runC E O B n c ⟨args ++ List.replicate (fn.ntmps - args.length) undefA, H, path, []⟩ with
    | some (.exit _, _, _) => none
    | some (_, st, c1) =>
      match resAll E.P E.G st.H st.fr fn.results.toList with
      | some (vs, c2) => some (oneOf vs, st.H, c1 ++ c2)
      | none => none
    | none => none
  | none => none
theorem concs_length (L : Nat → Loc) (vs : List AVal) : (AVal.concs L vs).length = vs.length := by simp [AVal.concs_map]
theorem oneOf_ok {A : Nat → Prop} {vs : List AVal} (h : AVal.oks A vs) : AVal.ok A (oneOf vs) := by
  cases vs with
  | nil => exact h
  | cons v vs =>
    cases vs with
    | nil => exact h.1
    | cons u us => exact h
theorem runF_ok {E : Env} {g : Nat} (hE : EnvOk E g) {O : Opn} {B : List (Nat × Sum)} {n : Nat} {f : FuncId} {fn : Func} {path : List Bool} (hf : E.P.funcs[f]? = some fn) (hname : (fn.name == "runtime.NumGoroutine") = false)
    {c : Code} (hbody : fn.body = some c) {args : List AVal} {H : AHeap} (hB : blocksOk E g [] H.length B c) {r : AVal} {H' : AHeap} {cs : List Cond} (h : runF E O B n fn path args H = some (r, H', cs)) (hc : All cs)
    {L : Nat → Loc} {w : World} (hs : Sim g L H w) (hg : GlobsOk E.G g w) (hok : AVal.oks (Th H) args) : CallF E.P f (AVal.concs L args).toArray w (Back g L H w r H') := by
  unfold runF at h
  simp only [hbody] at h
  have hcall : (callFunc f (AVal.concs L args).toArray).run E.P w = .ok (.enter f (AVal.concs L args).toArray) w := by
    unfold callFunc
    have hp : (program : Sem Program).run E.P w = .ok E.P w := rfl
    rw [Sem.run_bind, hp, Result.andThen_ok]
    simp only [hf, hname, hbody, Option.isNone_some, Bool.false_eq_true, if_false]
    rfl
  unfold CallF
  rw [hcall]
  have T : Told g E.G L (args ++ List.replicate (fn.ntmps - args.length) undefA) H [] { tmps := (AVal.concs L args).toArray ++ Array.replicate (fn.ntmps - (AVal.concs L args).toArray.size) undef, defers := [] } w := by
    refine ⟨hs, hg, ?_, ?_, rfl⟩
    · refine ⟨by simp [concs_length], ?_⟩
      intro t v hv hu
      rcases Nat.lt_or_ge t args.length with ht | ht
      · rw [List.getElem?_append_left ht] at hv
        simp only [Array.getElem?_append, List.size_toArray, List.getElem?_toArray, AVal.concs_map, List.getElem?_map, hv, Option.map_some]
        rw [List.length_map, if_pos ht]
      · rw [List.getElem?_append_right ht, List.getElem?_replicate] at hv
        split at hv
        · simp only [Option.some.injEq] at hv
          subst hv
          cases hu
        · cases hv
    · refine oks_append hok ?_
      rw [AVal.oks_iff]
      intro v hv
      rw [List.eq_of_mem_replicate hv]
      trivial
  split at h
  · cases h
  · rename_i e st c1 hne hrun
    split at h
    · rename_i vs c2 hres
      simp only [Option.some.injEq, Prod.mk.injEq] at h
      obtain ⟨rfl, rfl, rfl⟩ := h
      obtain ⟨hc1, hc2⟩ := (All_append _ _).1 hc
      refine calls_of_wp hf hbody (wp_mono ((runC_ok hE n).1 c hB _ e st c1 hrun hc1 ⟨L, H, w⟩ rfl L _ w T (Step.refl hs)) ?_)
      rintro e' a' w' ⟨rfl, L', T', k⟩
      have R := resAll_ok (P := E.P) T' (F := fun
        | .tmp t => pure (a'.tmps.getD t undef)
        | .cell x t => do loadVar t (← asAddr (a'.tmps.getD x undef))) (fun _ => rfl) (fun _ _ => rfl) _ _ _ hres hc2
      have hb : a'.defers = [] ∧ ∃ v, (results fn a'.tmps).run E.P w' = .ok v w' ∧ Back g L H w (oneOf vs) st.H (.returned v) w' :=
        ⟨T'.defers, _, oneOf_run T' hres hc2, L', rfl, k, oneOf_ok R.2⟩
      cases e with
      | normal => exact hb
      | ret => exact hb
      | exit id => exact (hne id rfl).elim
    · cases h
  · cases h
end Go.Am
/- AN ABSTRACT MACHINE. Part 30: what nobody can reach is forgotten; equalities among the conditions. -/
namespace Go.Am
def upN : Nat → List Nat → List Nat
  | 0, l => l
  | n + 1, l => upN n (n :: l)
def startsN : Nat → Nat → List Nat → Bool
  | _, 0, _ => true
  | i, n + 1, x :: xs => Nat.beq x i && startsN (i + 1) n xs
  | _, _ + 1, [] => false
theorem startsN_ok : ∀ (n i : Nat) (xs : List Nat), startsN i n xs = true → ∀ k, k < n → xs[k]? = some (i + k)
  | 0, _, _, _, k, hk => by omega
  | n + 1, i, [], h, k, hk => by simp [startsN] at h
  | n + 1, i, x :: xs, h, k, hk => by
    simp only [startsN, Bool.and_eq_true] at h
    cases k with
    | zero => simp [Nat.eq_of_beq_eq_true h.1]
    | succ k =>
      rw [List.getElem?_cons_succ, startsN_ok n (i + 1) xs h.2 k (by omega)]
      congr 1
      omega
/-- what nobody can reach from the first n blocks and some values is forgotten, the rest gets numbers in the order in which it is met -/
def tidyL (n : Nat) (vs : List AVal) (H : AHeap) : Option (List AVal × AHeap) :=
  let rs := reach H 1000 (upN n (AVal.mens vs)) []
  bif closedB H rs && (allB (fun x => memB x rs) (AVal.mens vs) && startsN 0 n rs) then some (AVal.rens (idx rs) vs, small H rs) else none
theorem rens_getElem (r : Nat → Nat) : ∀ (vs : List AVal) (t : Nat), (AVal.rens r vs)[t]? = (vs[t]?).map (AVal.ren r)
  | [], t => by simp [AVal.rens]
  | v :: vs, 0 => by simp [AVal.rens]
  | v :: vs, t + 1 => by simp only [AVal.rens, List.getElem?_cons_succ]; exact rens_getElem r vs t
theorem rens_length (r : Nat → Nat) : ∀ (vs : List AVal), (AVal.rens r vs).length = vs.length
  | [] => rfl
  | v :: vs => by simp only [AVal.rens, List.length_cons, rens_length r vs]
theorem Base.tidy {g : Nat} {b : Base} {L : Nat → Loc} {H H' : AHeap} {w : World} (k : b.at g L H w) {vs vs' : List AVal} (hok : AVal.oks (Th H) vs) (h : tidyL b.H.length vs H = some (vs', H')) :
    ∃ L', b.at g L' H' w ∧ AVal.oks (Th H') vs' ∧ vs'.length = vs.length ∧ ∀ (t : Nat) (v : AVal), vs'[t]? = some v → ∃ u : AVal, vs[t]? = some u ∧ isU u = isU v ∧ AVal.conc L' v = AVal.conc L u := by
  unfold tidyL at h
  simp only at h
  generalize reach H 1000 (upN b.H.length (AVal.mens vs)) [] = rs at h
  obtain ⟨hb, h⟩ := bif_some h
  simp only [Option.some.injEq, Prod.mk.injEq] at h
  obtain ⟨rfl, rfl⟩ := h
  simp only [Bool.and_eq_true] at hb
  obtain ⟨hcl, hmem, hst⟩ := hb
  have k : Step g b.L b.H b.w L H w := k
  have hC := closedB_ok k.sim hcl
  have hS := k.sim.small hC
  have hst := startsN_ok _ _ _ hst
  have hback : ∀ {i b : Nat}, rs[i]? = some b → back rs H.length i = b := fun {i b} h => by simp only [back, h]
  have hfirst : ∀ x, x < b.H.length → back rs H.length x = x := by
    intro x hx
    have := hst x hx
    rw [Nat.zero_add] at this
    exact hback this
  have hmem' : ∀ b ∈ AVal.mens vs, b ∈ rs := fun b hb' => memB_ok.1 (allB_ok hmem b hb')
  have hrs : AVal.oks (· ∈ rs) vs := AVal.oks_men vs hok hmem'
  refine ⟨_, ⟨?_, hS, ?_, ?_, k.kept, ?_⟩, ?_, rens_length _ _, ?_⟩
  · intro x hx
    simp only [hfirst x hx.lt]
    exact k.same x hx
  · rcases Nat.eq_zero_or_pos b.H.length with h0 | h0
    · omega
    · have := (List.getElem?_eq_some_iff.1 (hst (b.H.length - 1) (by omega))).1
      simp only [small, List.length_map]
      omega
  · intro x hx
    have h1 := hst x hx.lt
    rw [Nat.zero_add] at h1
    obtain ⟨y, hy, hm⟩ := hC.th x (List.mem_of_getElem? h1)
    refine ⟨(sub H x).ren (idx rs), by simp only [small, List.getElem?_map, h1, Option.map_some], ?_⟩
    rw [ABlk.ren_made, sub_eq hy]
    exact hm
  · intro i c0 h0 hl
    obtain ⟨x, hx, rfl⟩ := small_get h0
    obtain ⟨y, hy, _⟩ := hC.th x (List.mem_of_getElem? hx)
    simp only [hback hx, lv_ren, sub_eq hy] at hl ⊢
    exact k.own x y hy hl
  · refine AVal.rens_ok ?_ vs hrs
    intro x hx
    obtain ⟨y, h1, h2⟩ := hC.th x hx
    exact ⟨(sub H x).ren (idx rs), by simp only [small, List.getElem?_map, idx_get rs x hx, Option.map_some], by rw [ABlk.ren_made, sub_eq h1]; exact h2⟩
  · intro t v hv
    rw [rens_getElem] at hv
    cases hu : vs[t]? with
    | none => simp [hu] at hv
    | some u =>
      simp only [hu, Option.map_some, Option.some.injEq] at hv
      subst hv
      refine ⟨u, rfl, ?_, ?_⟩
      · unfold isU
        cases u <;> first | rfl | (rename_i a; cases a <;> rfl) | (rename_i a _ _; cases a <;> rfl) | (rename_i a; cases a <;> rfl)
      · rw [AVal.ren_conc]
        exact AVal.conc_stays (A := (· ∈ rs)) (fun x hx => by simp only [back_idx hx]) u ((AVal.oks_iff _ vs).1 hrs u (List.mem_of_getElem? hu))

/- EQUALITIES -/
inductive Side where
  | v (a : AVal)
  | h (a : AHeap)
def eqL : List Cond → List Side
  | [] => []
  | .eqv a _ :: cs => .v a :: eqL cs
  | .eqh a _ :: cs => .h a :: eqL cs
  | _ :: cs => eqL cs
def eqR : List Cond → List Side
  | [] => []
  | .eqv _ b :: cs => .v b :: eqR cs
  | .eqh _ b :: cs => .h b :: eqR cs
  | _ :: cs => eqR cs
def noEq : List Cond → List Cond
  | [] => []
  | .eqv _ _ :: cs => noEq cs
  | .eqh _ _ :: cs => noEq cs
  | c :: cs => c :: noEq cs
theorem noEq_ok : ∀ cs : List Cond, eqL cs = eqR cs → All (noEq cs) → All cs
  | [], _, _ => trivial
  | .eqv a b :: cs, h, hc => by
    simp only [eqL, eqR, List.cons.injEq, Side.v.injEq] at h
    exact ⟨h.1, noEq_ok cs h.2 hc⟩
  | .eqh a b :: cs, h, hc => by
    simp only [eqL, eqR, List.cons.injEq, Side.h.injEq] at h
    exact ⟨h.1, noEq_ok cs h.2 hc⟩
  | .lt a b :: cs, h, hc => ⟨hc.1, noEq_ok cs h hc.2⟩
  | .le a b :: cs, h, hc => ⟨hc.1, noEq_ok cs h hc.2⟩
  | .ilt a b :: cs, h, hc => ⟨hc.1, noEq_ok cs h hc.2⟩
  | .ile a b :: cs, h, hc => ⟨hc.1, noEq_ok cs h hc.2⟩
  | .tt b :: cs, h, hc => ⟨hc.1, noEq_ok cs h hc.2⟩
  | .prop p :: cs, h, hc => ⟨hc.1, noEq_ok cs h hc.2⟩
/-- the answer, the conditions that are not equalities, both sides of those that are -/
def outE : Option (AVal × AHeap × List Cond) → Option (AVal × AHeap × List Cond) × (List Side × List Side)
  | some (r, H, c) => (some (r, H, noEq c), eqL c, eqR c)
  | none => (none, [], [])
end Go.Am
/- AN ABSTRACT MACHINE. Part 31: loops; what a piece of code comes to. -/
namespace Go.Am
/-- only some slots are kept -/
def maskF : Nat → List Nat → List AVal → List AVal
  | _, _, [] => []
  | i, ks, v :: vs => (bif memB i ks then v else undefA) :: maskF (i + 1) ks vs
theorem maskF_len : ∀ (i : Nat) (ks : List Nat) (vs : List AVal), (maskF i ks vs).length = vs.length
  | _, _, [] => rfl
  | i, ks, v :: vs => by simp only [maskF, List.length_cons, maskF_len (i + 1) ks vs]
theorem maskF_get : ∀ (i : Nat) (ks : List Nat) (vs : List AVal) (t : Nat) (v : AVal), (maskF i ks vs)[t]? = some v → isU v = false → vs[t]? = some v
  | _, _, [], t, v, h, _ => by simp [maskF] at h
  | i, ks, u :: vs, 0, v, h, hv => by
    simp only [maskF, List.getElem?_cons_zero, Option.some.injEq] at h
    cases hm : memB i ks with
    | true => simp only [hm, cond_true] at h; simp [h]
    | false =>
      simp only [hm, cond_false] at h
      subst h
      cases hv
  | i, ks, u :: vs, t + 1, v, h, hv => by
    simp only [maskF, List.getElem?_cons_succ] at h ⊢
    exact maskF_get (i + 1) ks vs t v h hv
theorem maskF_ok {A : Nat → Prop} : ∀ (i : Nat) (ks : List Nat) (vs : List AVal), AVal.oks A vs → AVal.oks A (maskF i ks vs)
  | _, _, [], _ => trivial
  | i, ks, v :: vs, h => by
    simp only [maskF]
    refine ⟨?_, maskF_ok (i + 1) ks vs h.2⟩
    cases memB i ks with
    | true => exact h.1
    | false => trivial
def lookL : List (Nat × AVal) → Nat → AVal
  | [], _ => undefA
  | (k, v) :: l, t => bif Nat.beq k t then v else lookL l t
def frameG (live : List (Nat × AVal)) : Nat → Nat → List AVal
  | 0, _ => []
  | k + 1, i => lookL live i :: frameG live k (i + 1)
/-- a frame of n slots, of which some are known -/
def frameOf (n : Nat) (live : List (Nat × AVal)) : List AVal := frameG live n 0
structure Sta where
  fr : List AVal
  H : AHeap
/-- masked and tidied -/
def tidyS (n0 : Nat) (keep : List Nat) (fr : List AVal) (H : AHeap) : Option Sta :=
  match tidyL n0 (maskF 0 keep fr) H with
  | some (fr', H') => some ⟨fr', H'⟩
  | none => none
theorem Told.tidy {E : Env} {g : Nat} {b : Base} {L : Nat → Loc} {fr : List AVal} {H : AHeap} {ds : List Deferred} {a : Act} {w : World} (T : Told g E.G L fr H ds a w) (k : b.at g L H w) {keep : List Nat} {X : Sta} (h : tidyS b.H.length keep fr H = some X) :
    ∃ L', Told g E.G L' X.fr X.H ds a w ∧ b.at g L' X.H w := by
  unfold tidyS at h
  split at h
  case h_2 => cases h
  rename_i fr' H' ht
  simp only [Option.some.injEq] at h
  subst h
  obtain ⟨L', h1, h2, h3, h4⟩ := Base.tidy k (maskF_ok 0 keep fr T.ok) ht
  refine ⟨L', ⟨Step.sim h1, T.glob, ⟨?_, ?_⟩, h2, T.defers⟩, h1⟩
  · rw [h3, maskF_len]; exact T.frame.1
  · intro t v hv hu
    obtain ⟨u, h5, h6, h7⟩ := h4 t v hv
    rw [h7]
    rw [← h6] at hu
    exact T.frame.2 t u (maskF_get 0 keep fr t u h5 hu) hu
/-- from one state, in any world, a piece of code comes to another -/
def RunTo (E : Env) (g : Nat) (ds : List Deferred) (n0 : Nat) (c : Code) (X : Sta) (e : AEx) (Y : Sta) : Prop :=
  ∀ (b : Base), b.H.length = n0 → ∀ (L : Nat → Loc) (a : Act) (w : World), Told g E.G L X.fr X.H ds a w → b.at g L X.H w → c.wp E.P (fun e' a' w' => e' = e.ex ∧ ∃ L', Told g E.G L' Y.fr Y.H ds a' w' ∧ b.at g L' Y.H w') a w
/-- what a run comes to, masked and tidied -/
def outS (n0 : Nat) (keep : List Nat) (r : Option (AEx × St × List Cond)) : Option (AEx × Option Sta × List Cond) × List Side × List Side :=
  match r with
  | some (e, st, c) => (some (e, tidyS n0 keep st.fr st.H, noEq c), eqL c, eqR c)
  | none => (none, [], [])
theorem runTo_of {E : Env} {g : Nat} (hE : EnvOk E g) {O : Opn} {B : List (Nat × Sum)} {ds : List Deferred} {n0 : Nat} {n : Nat} {c : Code} {X : Sta} {path : List Bool} {e : AEx} {Y : Sta} {keep : List Nat} {cs : List Cond} (hB : blocksOk E g ds n0 B c)
    (h1 : (outS n0 keep (runC E O B n c ⟨X.fr, X.H, path, []⟩)).1 = some (e, some Y, cs)) (h2 : (outS n0 keep (runC E O B n c ⟨X.fr, X.H, path, []⟩)).2.1 = (outS n0 keep (runC E O B n c ⟨X.fr, X.H, path, []⟩)).2.2) (hc : All cs) : RunTo E g ds n0 c X e Y := by
  intro b hb L a w T k
  unfold outS at h1 h2
  split at h1
  case h_2 => cases h1
  rename_i e' st' c' hr
  simp only [hr] at h2
  simp only [Option.some.injEq, Prod.mk.injEq] at h1
  obtain ⟨rfl, h3, rfl⟩ := h1
  refine wp_mono ((runC_ok hE n).1 c hB _ e' st' c' hr (noEq_ok c' h2 hc) b hb L a w T k) ?_
  rintro e2 a2 w2 ⟨rfl, L2, T2, k2⟩
  rw [← hb] at h3
  obtain ⟨L3, T3, k3⟩ := T2.tidy k2 h3
  exact ⟨rfl, L3, T3, k3⟩
theorem RunTo.block {E : Env} {g : Nat} {ds : List Deferred} {n0 : Nat} {c : Code} {X Y : Sta} {id : Nat} (h : RunTo E g ds n0 c X (.exit id) Y) : RunTo E g ds n0 (.block id c) X .normal Y := by
  intro b hb L a w T k
  apply wp_block
  refine wp_mono (h b hb L a w T k) ?_
  rintro e' a' w' ⟨rfl, h'⟩
  simp only [AEx.ex, Exit.inBlock, if_true]
  exact ⟨trivial, h'⟩
theorem RunTo.block_ret {E : Env} {g : Nat} {ds : List Deferred} {n0 : Nat} {c : Code} {X Y : Sta} {id : Nat} (h : RunTo E g ds n0 c X .ret Y) : RunTo E g ds n0 (.block id c) X .ret Y := by
  intro b hb L a w T k
  apply wp_block
  refine wp_mono (h b hb L a w T k) ?_
  rintro e' a' w' ⟨rfl, h'⟩
  exact ⟨rfl, h'⟩
/-- loops: every round comes nearer to the end, or ends it -/
theorem RunTo.loop {E : Env} {g : Nat} {ds : List Deferred} {n0 : Nat} {c : Code} {ι : Type} (I : ι → Prop) (μ : ι → Nat) (X : ι → Sta) (out : ι → AEx × Sta)
    (round : ∀ i, I i → (∃ j, μ j < μ i ∧ I j ∧ out j = out i ∧ RunTo E g ds n0 c (X i) .normal (X j)) ∨ ((out i).1.ex ≠ .normal ∧ RunTo E g ds n0 c (X i) (out i).1 (out i).2)) :
    ∀ i, I i → RunTo E g ds n0 (.loop c) (X i) (out i).1 (out i).2 := by
  have key : ∀ (m : Nat) (i : ι), μ i ≤ m → I i → ∀ (b : Base), b.H.length = n0 → ∀ (L : Nat → Loc) (a : Act) (w : World), Told g E.G L (X i).fr (X i).H ds a w → b.at g L (X i).H w →
      InLoop E.P c (fun e' a' w' => e' = (out i).1.ex ∧ ∃ L', Told g E.G L' (out i).2.fr (out i).2.H ds a' w' ∧ b.at g L' (out i).2.H w') a w := by
    intro m
    induction m with
    | zero =>
      intro i hm hi b hb L a w T k
      rcases round i hi with ⟨j, hj, _⟩ | ⟨hne, hr⟩
      · omega
      · apply inLoop_round
        refine wp_mono (hr b hb L a w T k) ?_
        rintro e' a' w' ⟨rfl, h'⟩
        generalize (out i).1 = e at hne h'
        cases e with
        | normal => exact absurd rfl hne
        | exit id => exact ⟨rfl, h'⟩
        | ret => exact ⟨rfl, h'⟩
    | succ m ih =>
      intro i hm hi b hb L a w T k
      rcases round i hi with ⟨j, hj, hIj, ho, hr⟩ | ⟨hne, hr⟩
      · apply inLoop_round
        refine wp_mono (hr b hb L a w T k) ?_
        rintro e' a' w' ⟨rfl, L', T', k'⟩
        have := ih j (by omega) hIj b hb L' a' w' T' k'
        rw [ho] at this
        exact this
      · apply inLoop_round
        refine wp_mono (hr b hb L a w T k) ?_
        rintro e' a' w' ⟨rfl, h'⟩
        generalize (out i).1 = e at hne h'
        cases e with
        | normal => exact absurd rfl hne
        | exit id => exact ⟨rfl, h'⟩
        | ret => exact ⟨rfl, h'⟩
  intro i hi b hb L a w T k
  exact inLoop_loop (key (μ i) i (Nat.le_refl _) hi b hb L a w T k)
/-- what a block does, told of the slots and the memory that it needs -/
def sumR (n0 : Nat) (keep : List Nat) (f : Sta → Option (AEx × Sta × List Cond)) : Sum := fun st =>
  match tidyS n0 keep st.fr st.H with
  | some X => match f X with
    | some (e, Y, c) => some (e, ⟨Y.fr, Y.H, st.path, []⟩, c)
    | none => none
  | none => none
theorem sumR_ok {E : Env} {g : Nat} {ds : List Deferred} {n0 : Nat} {c : Code} {keep : List Nat} {f : Sta → Option (AEx × Sta × List Cond)} (h : ∀ X e Y cs, f X = some (e, Y, cs) → All cs → RunTo E g ds n0 c X e Y) : SumOk E g ds n0 c (sumR n0 keep f) := by
  intro st e st' cs hs hc b hb L a w T k
  unfold sumR at hs
  split at hs
  case h_2 => cases hs
  rename_i X hX
  split at hs
  case h_2 => cases hs
  rename_i e' Y c' hf
  simp only [Option.some.injEq, Prod.mk.injEq] at hs
  obtain ⟨rfl, rfl, rfl⟩ := hs
  rw [← hb] at hX
  obtain ⟨L', T', k'⟩ := T.tidy k hX
  exact h X e' Y c' hf hc b hb L' a w T' k'

/- ALIKE -/
structure Alike (r r' : AVal) : Prop where
  conc : ∀ L, AVal.conc L r = AVal.conc L r'
  cells : ∀ L, AVal.cells L r = AVal.cells L r'
  ok : ∀ A, AVal.ok A r → AVal.ok A r'
  u : isU r = isU r'
theorem Alike.refl (r : AVal) : Alike r r := ⟨fun _ => rfl, fun _ => rfl, fun _ h => h, rfl⟩
theorem Alike.trans {a b c : AVal} (h : Alike a b) (k : Alike b c) : Alike a c := ⟨fun L => (h.conc L).trans (k.conc L), fun L => (h.cells L).trans (k.cells L), fun A x => k.ok A (h.ok A x), h.u.trans k.u⟩
theorem Back.alike {g : Nat} {L : Nat → Loc} {H H' : AHeap} {w w' : World} {e : Ending} {r r' : AVal} (hr : Alike r r') (h : Back g L H w r H' e w') : Back g L H w r' H' e w' := by
  obtain ⟨L', h1, h2, h3⟩ := h
  exact ⟨L', by rw [h1, hr.conc], h2, hr.ok _ h3⟩
def AlikeB : ABlk → ABlk → Prop
  | .obj t v, .obj t' v' => t = t' ∧ Alike v v'
  | a, b => a = b
theorem AlikeB.refl : ∀ c : ABlk, AlikeB c c
  | .obj t v => ⟨rfl, Alike.refl v⟩
  | .hole => rfl
  | .gone => rfl
  | .buf _ _ _ => rfl
theorem AlikeB.kind {c c' : ABlk} (h : AlikeB c c') : c.live = c'.live ∧ c.made = c'.made := by
  cases c <;> cases c' <;> first | exact ⟨rfl, rfl⟩ | (cases h; done)
theorem AlikeB.holds {c c' : ABlk} (h : AlikeB c c') {L : Nat → Loc} {w : World} {l : Loc} (k : Holds L w l c) : Holds L w l c' := by
  cases c <;> cases c' <;> first | exact k | (cases h; done) | skip
  · obtain ⟨rfl, h⟩ := h
    obtain ⟨k1, k2, fr, k3, k4⟩ := k
    refine ⟨k1, k2, fr, ?_, ?_⟩
    · rw [← AVal.cells_length L, ← h.cells L, AVal.cells_length]; exact k3
    · rw [← h.cells L]; exact k4
  · cases h; exact k
theorem AlikeB.ok {c c' : ABlk} (h : AlikeB c c') {A : Nat → Prop} (k : c.ok A) : c'.ok A := by
  cases c <;> cases c' <;> first | trivial | (cases h; done) | exact h.2.ok A k
/-- the same but for the form of values -/
def AlikeH : AHeap → AHeap → Prop
  | [], [] => True
  | c :: H, c' :: H' => AlikeB c c' ∧ AlikeH H H'
  | _, _ => False
def AlikeF : List AVal → List AVal → Prop
  | [], [] => True
  | v :: vs, v' :: vs' => Alike v v' ∧ AlikeF vs vs'
  | _, _ => False
theorem AlikeH.refl : ∀ H, AlikeH H H
  | [] => trivial
  | c :: H => ⟨AlikeB.refl c, AlikeH.refl H⟩
theorem AlikeF.refl : ∀ vs, AlikeF vs vs
  | [] => trivial
  | v :: vs => ⟨Alike.refl v, AlikeF.refl vs⟩
theorem AlikeH.len : ∀ {H H' : AHeap}, AlikeH H H' → H.length = H'.length
  | [], [], _ => rfl
  | _ :: _, _ :: _, h => by simp [AlikeH.len h.2]
  | [], _ :: _, h => h.elim
  | _ :: _, [], h => h.elim
theorem AlikeH.get : ∀ {H H' : AHeap}, AlikeH H H' → ∀ (b : Nat) (c' : ABlk), H'[b]? = some c' → ∃ c, H[b]? = some c ∧ AlikeB c c'
  | [], [], _, b, c', hb => by simp at hb
  | x :: _, y :: _, h, 0, c', hb => by
    simp only [List.getElem?_cons_zero, Option.some.injEq] at hb
    subst hb
    exact ⟨x, rfl, h.1⟩
  | _ :: _, _ :: _, h, b + 1, c', hb => by
    simp only [List.getElem?_cons_succ] at hb ⊢
    exact AlikeH.get h.2 b c' hb
  | [], _ :: _, h, _, _, _ => h.elim
  | _ :: _, [], h, _, _, _ => h.elim
theorem AlikeH.getl : ∀ {H H' : AHeap}, AlikeH H H' → ∀ (b : Nat) (c : ABlk), H[b]? = some c → ∃ c', H'[b]? = some c' ∧ AlikeB c c'
  | [], [], _, b, c', hb => by simp at hb
  | x :: _, y :: _, h, 0, c', hb => by
    simp only [List.getElem?_cons_zero, Option.some.injEq] at hb
    subst hb
    exact ⟨y, rfl, h.1⟩
  | _ :: _, _ :: _, h, b + 1, c', hb => by
    simp only [List.getElem?_cons_succ] at hb ⊢
    exact AlikeH.getl h.2 b c' hb
  | [], _ :: _, h, _, _, _ => h.elim
  | _ :: _, [], h, _, _, _ => h.elim
theorem AlikeF.len : ∀ {H H' : List AVal}, AlikeF H H' → H.length = H'.length
  | [], [], _ => rfl
  | _ :: _, _ :: _, h => by simp [AlikeF.len h.2]
  | [], _ :: _, h => h.elim
  | _ :: _, [], h => h.elim
theorem AlikeF.get : ∀ {H H' : List AVal}, AlikeF H H' → ∀ (b : Nat) (c' : AVal), H'[b]? = some c' → ∃ c, H[b]? = some c ∧ Alike c c'
  | [], [], _, b, c', hb => by simp at hb
  | x :: _, y :: _, h, 0, c', hb => by
    simp only [List.getElem?_cons_zero, Option.some.injEq] at hb
    subst hb
    exact ⟨x, rfl, h.1⟩
  | _ :: _, _ :: _, h, b + 1, c', hb => by
    simp only [List.getElem?_cons_succ] at hb ⊢
    exact AlikeF.get h.2 b c' hb
  | [], _ :: _, h, _, _, _ => h.elim
  | _ :: _, [], h, _, _, _ => h.elim
theorem AlikeF.oks : ∀ {H H' : List AVal}, AlikeF H H' → ∀ {A : Nat → Prop}, AVal.oks A H → AVal.oks A H'
  | [], [], _, _, _ => trivial
  | _ :: _, _ :: _, h, A, k => ⟨h.1.ok A k.1, AlikeF.oks h.2 k.2⟩
  | [], _ :: _, h, _, _ => h.elim
  | _ :: _, [], h, _, _ => h.elim
theorem AlikeH.th {H H' : AHeap} (h : AlikeH H H') {b : Nat} (k : Th H b) : Th H' b := by
  obtain ⟨c, h1, h2⟩ := k
  obtain ⟨c', h3, h4⟩ := h.getl b c h1
  exact ⟨c', h3, by rw [← h4.kind.2]; exact h2⟩
theorem lv_alike {l : Loc} {c c' : ABlk} (h : AlikeB c c') : lv l c = lv l c' := by unfold lv; rw [h.kind.1]
theorem Step.alike {g : Nat} {L L' : Nat → Loc} {H H1 H2 : AHeap} {w w' : World} (k : Step g L H w L' H1 w') (h : AlikeH H1 H2) : Step g L H w L' H2 w' := by
  refine ⟨k.same, ⟨?_, ?_, ?_, ?_, k.sim.gl⟩, by rw [← h.len]; exact k.len, fun b hb => h.th (k.th b hb), k.kept, ?_⟩
  · intro b c hb
    obtain ⟨c0, h1, h2⟩ := h.get b c hb
    exact h2.holds (k.sim.blk b c0 h1)
  · intro b c hb
    obtain ⟨c0, h1, h2⟩ := h.get b c hb
    exact ABlk.ok_mono (fun x hx => h.th hx) (h2.ok (k.sim.ok b c0 h1))
  · intro b b' c c' hb hb' hl hl' he
    obtain ⟨c0, h1, h2⟩ := h.get b c hb
    obtain ⟨c1, h3, h4⟩ := h.get b' c' hb'
    rw [← lv_alike h2] at hl
    rw [← lv_alike h4] at hl'
    exact k.sim.inj b b' c0 c1 h1 h3 hl hl' he
  · intro b c hb hl
    obtain ⟨c0, h1, h2⟩ := h.get b c hb
    rw [← lv_alike h2] at hl
    exact k.sim.above b c0 h1 hl
  · intro b c hb hl
    obtain ⟨c0, h1, h2⟩ := h.get b c hb
    rw [← lv_alike h2] at hl
    exact k.own b c0 h1 hl
theorem Back.alikeH {g : Nat} {L : Nat → Loc} {H H1 H2 : AHeap} {w w' : World} {e : Ending} {r : AVal} (h : AlikeH H1 H2) (k : Back g L H w r H1 e w') : Back g L H w r H2 e w' := by
  obtain ⟨L', h1, h2, h3⟩ := k
  exact ⟨L', h1, h2.alike h, AVal.ok_mono (fun b hb => h.th hb) r h3⟩
theorem Told.alike {E : Env} {g : Nat} {b : Base} {L : Nat → Loc} {X Y : Sta} {ds : List Deferred} {a : Act} {w : World} (T : Told g E.G L X.fr X.H ds a w) (k : b.at g L X.H w) (hf : AlikeF X.fr Y.fr) (hh : AlikeH X.H Y.H) : Told g E.G L Y.fr Y.H ds a w ∧ b.at g L Y.H w := by
  have k2 : b.at g L Y.H w := Step.alike k hh
  refine ⟨⟨Step.sim k2, T.glob, ⟨by rw [← hf.len]; exact T.frame.1, ?_⟩, AVal.oks_mono (fun b hb => hh.th hb) _ (hf.oks T.ok), T.defers⟩, k2⟩
  intro t v hv hu
  obtain ⟨v0, h1, h2⟩ := hf.get t v hv
  rw [← h2.conc L]
  exact T.frame.2 t v0 h1 (by rw [h2.u]; exact hu)
/-- states that are the same but for the form of values -/
def AlikeS (X Y : Sta) : Prop := AlikeF X.fr Y.fr ∧ AlikeH X.H Y.H
theorem AlikeS.refl (X : Sta) : AlikeS X X := ⟨AlikeF.refl _, AlikeH.refl _⟩
theorem RunTo.alike {E : Env} {g : Nat} {ds : List Deferred} {n0 : Nat} {c : Code} {X X' Y Y' : Sta} {e : AEx} (h : RunTo E g ds n0 c X e Y) (hX : AlikeS X' X) (hY : AlikeS Y Y') : RunTo E g ds n0 c X' e Y' := by
  intro b hb L a w T k
  obtain ⟨T1, k1⟩ := T.alike k hX.1 hX.2
  refine wp_mono (h b hb L a w T1 k1) ?_
  rintro e' a' w' ⟨rfl, L', T', k'⟩
  obtain ⟨T2, k2⟩ := T'.alike k' hY.1 hY.2
  exact ⟨rfl, L', T2, k2⟩
/-- what a function comes to, tidied -/
def outF (n0 : Nat) (r : Option (AVal × AHeap × List Cond)) : Option (Option (List AVal × AHeap) × List Cond) × List Side × List Side :=
  match r with
  | some (v, H, c) => (some (tidyL n0 [v] H, noEq c), eqL c, eqR c)
  | none => (none, [], [])
theorem callF_of {E : Env} {g : Nat} (hE : EnvOk E g) {O : Opn} {B : List (Nat × Sum)} {n : Nat} {f : FuncId} {fn : Func} {path : List Bool} (hf : E.P.funcs[f]? = some fn) (hname : (fn.name == "runtime.NumGoroutine") = false)
    {c : Code} (hbody : fn.body = some c) {args : List AVal} {H : AHeap} (hB : blocksOk E g [] H.length B c) {r : AVal} {H' : AHeap} {cs : List Cond}
    (h1 : (outF H.length (runF E O B n fn path args H)).1 = some (some ([r], H'), cs)) (h2 : (outF H.length (runF E O B n fn path args H)).2.1 = (outF H.length (runF E O B n fn path args H)).2.2) (hc : All cs)
    {L : Nat → Loc} {w : World} (hs : Sim g L H w) (hg : GlobsOk E.G g w) (hok : AVal.oks (Th H) args) : CallF E.P f (AVal.concs L args).toArray w (Back g L H w r H') := by
  unfold outF at h1 h2
  split at h1
  case h_2 => cases h1
  rename_i v H1 c1 hr
  simp only [hr] at h2
  simp only [Option.some.injEq, Prod.mk.injEq] at h1
  obtain ⟨h3, rfl⟩ := h1
  refine (runF_ok hE hf hname hbody hB hr (noEq_ok c1 h2 hc) hs hg hok).mono ?_
  rintro e w' ⟨L', rfl, k, hv⟩
  obtain ⟨L2, k2, q1, q2, q3⟩ := Base.tidy (b := ⟨L, H, w⟩) k (vs := [v]) ⟨hv, trivial⟩ h3
  obtain ⟨u, hu, _, hc⟩ := q3 0 r rfl
  simp only [List.getElem?_cons_zero, Option.some.injEq] at hu
  subst hu
  exact ⟨L2, by rw [hc], k2, q1.1⟩
end Go.Am
/- AN ABSTRACT MACHINE. Part 32: which blocks are told. -/
namespace Go.Am
def bodyOf (fn : Func) : Code :=
  match fn.body with
  | some c => c
  | none => .skip
/-- the first block of a number -/
def blkOf (id : Nat) : Code → Option Code
  | .seq a b => match blkOf id a with
    | some c => some c
    | none => blkOf id b
  | .cond _ x y => match blkOf id x with
    | some c => some c
    | none => blkOf id y
  | .block k c => bif Nat.beq k id then some c else blkOf id c
  | .loop c => blkOf id c
  | _ => none
def cntB (id : Nat) : Code → Nat
  | .seq a b => cntB id a + cntB id b
  | .cond _ x y => cntB id x + cntB id y
  | .block k c => (bif Nat.beq k id then 1 else 0) + cntB id c
  | .loop c => cntB id c
  | _ => 0
def theB (id : Nat) (c : Code) : Code :=
  match blkOf id c with
  | some d => d
  | none => .skip
def loopOf : Code → Code
  | .loop c => c
  | c => c
theorem cntB_none {id : Nat} : ∀ c, cntB id c = 0 → blkOf id c = none
  | .seq a b, h => by
    simp only [cntB, Nat.add_eq_zero_iff] at h
    simp only [blkOf, cntB_none a h.1, cntB_none b h.2]
  | .cond _ x y, h => by
    simp only [cntB, Nat.add_eq_zero_iff] at h
    simp only [blkOf, cntB_none x h.1, cntB_none y h.2]
  | .block k c, h => by
    simp only [cntB, Nat.add_eq_zero_iff] at h
    cases hb : Nat.beq k id with
    | true => simp [hb] at h
    | false => simp only [blkOf, hb, cond_false, cntB_none c h.2]
  | .loop c, h => by
    simp only [cntB] at h
    simp only [blkOf, cntB_none c h]
  | .skip, _ => rfl
  | .region _ _ _, _ => rfl
  | .rangeFunc _ _ _ _, _ => rfl
  | .exit _, _ => rfl
  | .ret, _ => rfl
  | .label _, _ => rfl
  | .goto _, _ => rfl
  | .scope _, _ => rfl
  | .refuse _, _ => rfl
theorem blocksOk_nil {E : Env} {g : Nat} {ds : List Deferred} {n0 : Nat} : ∀ c, blocksOk E g ds n0 [] c
  | .seq a b => ⟨blocksOk_nil a, blocksOk_nil b⟩
  | .cond _ x y => ⟨blocksOk_nil x, blocksOk_nil y⟩
  | .block k c => by simp only [blocksOk, lookB]; exact blocksOk_nil c
  | .loop c => by simp only [blocksOk]; exact blocksOk_nil c
  | .skip => trivial
  | .region _ _ _ => trivial
  | .rangeFunc _ _ _ _ => trivial
  | .exit _ => trivial
  | .ret => trivial
  | .label _ => trivial
  | .goto _ => trivial
  | .scope _ => trivial
  | .refuse _ => trivial
theorem blocksOk_each {E : Env} {g : Nat} {ds : List Deferred} {n0 : Nat} {B : List (Nat × Sum)} : ∀ c, (∀ id S, lookB B id = some S → cntB id c ≤ 1 ∧ ∀ d, blkOf id c = some d → SumOk E g ds n0 (.block id d) S) → blocksOk E g ds n0 B c
  | .seq a b, h => by
    refine ⟨blocksOk_each a fun id S hS => ?_, blocksOk_each b fun id S hS => ?_⟩
    · obtain ⟨h1, h2⟩ := h id S hS
      simp only [cntB] at h1
      refine ⟨by omega, fun d hd => h2 d ?_⟩
      simp only [blkOf, hd]
    · obtain ⟨h1, h2⟩ := h id S hS
      simp only [cntB] at h1
      refine ⟨by omega, fun d hd => h2 d ?_⟩
      have : cntB id b ≠ 0 := fun h0 => by rw [cntB_none b h0] at hd; cases hd
      simp only [blkOf, cntB_none (id := id) a (by omega), hd]
  | .cond _ a b, h => by
    refine ⟨blocksOk_each a fun id S hS => ?_, blocksOk_each b fun id S hS => ?_⟩
    · obtain ⟨h1, h2⟩ := h id S hS
      simp only [cntB] at h1
      refine ⟨by omega, fun d hd => h2 d ?_⟩
      simp only [blkOf, hd]
    · obtain ⟨h1, h2⟩ := h id S hS
      simp only [cntB] at h1
      refine ⟨by omega, fun d hd => h2 d ?_⟩
      have : cntB id b ≠ 0 := fun h0 => by rw [cntB_none b h0] at hd; cases hd
      simp only [blkOf, cntB_none (id := id) a (by omega), hd]
  | .block k c, h => by
    simp only [blocksOk]
    split
    · rename_i S hS
      exact (h k S hS).2 c (by simp only [blkOf, Nat.beq_refl, cond_true])
    · rename_i hS
      refine blocksOk_each c fun id S hS' => ?_
      obtain ⟨h1, h2⟩ := h id S hS'
      have hne : Nat.beq k id = false := by
        cases hb : Nat.beq k id with
        | false => rfl
        | true =>
          rw [Nat.eq_of_beq_eq_true hb] at hS
          rw [hS] at hS'
          cases hS'
      simp only [cntB, hne, cond_false, Nat.zero_add] at h1
      refine ⟨h1, fun d hd => h2 d ?_⟩
      simp only [blkOf, hne, cond_false, hd]
  | .loop c, h => by
    simp only [blocksOk]
    exact blocksOk_each c fun id S hS => h id S hS
  | .skip, _ => trivial
  | .region _ _ _, _ => trivial
  | .rangeFunc _ _ _ _, _ => trivial
  | .exit _, _ => trivial
  | .ret, _ => trivial
  | .label _, _ => trivial
  | .goto _, _ => trivial
  | .scope _, _ => trivial
  | .refuse _, _ => trivial
def sumsOk (E : Env) (g : Nat) (ds : List Deferred) (n0 : Nat) (c : Code) : List (Nat × Sum) → Prop
  | [] => True
  | (id, S) :: B => SumOk E g ds n0 (.block id (theB id c)) S ∧ sumsOk E g ds n0 c B
def onceB (c : Code) : List (Nat × Sum) → Bool
  | [] => true
  | (id, _) :: B => Nat.ble (cntB id c) 1 && onceB c B
theorem blocksOk_of {E : Env} {g : Nat} {ds : List Deferred} {n0 : Nat} {B : List (Nat × Sum)} {c : Code} (h1 : onceB c B = true) (h2 : sumsOk E g ds n0 c B) : blocksOk E g ds n0 B c := by
  refine blocksOk_each c ?_
  induction B with
  | nil => intro id S hS; cases hS
  | cons p B ih =>
    obtain ⟨k, S'⟩ := p
    simp only [onceB, Bool.and_eq_true] at h1
    simp only [sumsOk] at h2
    intro id S hS
    simp only [lookB] at hS
    cases hb : Nat.beq k id with
    | true =>
      simp only [hb, cond_true, Option.some.injEq] at hS
      subst hS
      have := Nat.eq_of_beq_eq_true hb
      subst this
      refine ⟨Nat.le_of_ble_eq_true h1.1, fun d hd => ?_⟩
      have h3 := h2.1
      simp only [theB, hd] at h3
      exact h3
    | false =>
      simp only [hb, cond_false] at hS
      exact ih h1.2 h2.2 id S hS
end Go.Am
