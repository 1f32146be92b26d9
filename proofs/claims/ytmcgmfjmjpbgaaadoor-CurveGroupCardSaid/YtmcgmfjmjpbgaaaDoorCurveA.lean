/- Part of the proof: CurveA. -/
import Derived.Test.YtmcgmfjmjpbgaaaDoorNistA
import Derived.Test.YtmcgmfjmjpbgaaaDoorRefB
import Derived.Test.YtmcgmfjmjpbgaaaDoorMathC
set_option linter.unusedVariables false
set_option maxRecDepth 100000
namespace Go.Am.Sl
open Go.Am Go.Proofs
/- BYTES THE OTHER WAY ROUND -/
def fClone : Spec := fun args H =>
  match args, H with
  | [.bsl 0 p off len], [.buf tb .u8 xs] => some (.bsl 1 0 0 len, [.buf tb .u8 xs, .buf 5 .u8 ((xs.drop off).take len)], [.le (off + len) xs.length, .lt 0 xs.length, .le len 1000000000])
  | _, _ => none
def revQ (n : Nat) (xs : List Int) (i : Nat) : List Int := (List.range n).map fun k => if k < i ∨ n ≤ k + i then xs.getD (n - 1 - k) 0 else xs.getD k 0
theorem revQ_len (n : Nat) (xs : List Int) (i : Nat) : (revQ n xs i).length = n := by simp [revQ]
theorem revQ_get {n : Nat} {xs : List Int} {i k : Nat} (h : k < n) : (revQ n xs i).getD k 0 = if k < i ∨ n ≤ k + i then xs.getD (n - 1 - k) 0 else xs.getD k 0 := by
  rw [List.getD_eq_getElem?_getD]
  simp [revQ, h]
theorem list_ext {a b : List Int} (h : a.length = b.length) (hk : ∀ k, k < a.length → a.getD k 0 = b.getD k 0) : a = b := by
  apply List.ext_getElem h
  intro k h1 h2
  have := hk k h1
  rw [List.getD_eq_getElem?_getD, List.getD_eq_getElem?_getD, List.getElem?_eq_getElem h1, List.getElem?_eq_getElem h2] at this
  exact this
theorem getD_set {l : List Int} {i k : Nat} {v : Int} (h : k < l.length) : (l.set i v).getD k 0 = if i = k then v else l.getD k 0 := by
  rw [List.getD_eq_getElem?_getD, List.getElem?_set, List.getD_eq_getElem?_getD]
  by_cases e : i = k
  · subst e; simp [h]
  · simp [e]
theorem revQ_zero (xs : List Int) : revQ xs.length xs 0 = xs := by
  apply list_ext (revQ_len _ _ _)
  intro k hk
  rw [revQ_len] at hk
  rw [revQ_get hk, if_neg (by omega)]
theorem revQ_end {n i : Nat} {xs : List Int} (hx : xs.length = n) (h : n ≤ i + i + 1) : revQ n xs i = xs.reverse := by
  apply list_ext (by rw [revQ_len, List.length_reverse, hx])
  intro k hk
  rw [revQ_len] at hk
  rw [revQ_get hk]
  have e : xs.reverse.getD k 0 = xs.getD (n - 1 - k) 0 := by
    rw [List.getD_eq_getElem?_getD, List.getElem?_reverse (by omega), hx, List.getD_eq_getElem?_getD]
  rw [e]
  split
  · rfl
  · have : n - 1 - k = k := by omega
    rw [this]
theorem revQ_step {n i : Nat} {xs : List Int} (hx : xs.length = n) (h : i < n - 1 - i) :
    List.set (List.set (revQ n xs i) (0 + i) ((revQ n xs i).getD (0 + (n - 1 - i)) 0)) (0 + (n - 1 - i)) ((revQ n xs i).getD (0 + i) 0) = revQ n xs (i + 1) := by
  rw [Nat.zero_add, Nat.zero_add]
  have g1 : (revQ n xs i).getD (n - 1 - i) 0 = xs.getD (n - 1 - i) 0 := by rw [revQ_get (by omega), if_neg (by omega)]
  have g2 : (revQ n xs i).getD i 0 = xs.getD i 0 := by rw [revQ_get (by omega), if_neg (by omega)]
  rw [g1, g2]
  apply list_ext (by simp [revQ_len])
  intro k hk
  simp only [List.length_set, revQ_len] at hk
  rw [getD_set (by simp [revQ_len, hk]), revQ_get hk]
  split
  · rename_i e
    subst e
    rw [if_pos (by omega)]
    have : n - 1 - (n - 1 - i) = i := by omega
    rw [this]
  · rename_i e
    rw [getD_set (by rw [revQ_len]; exact hk)]
    split
    · rename_i e2
      subst e2
      rw [if_pos (by omega)]
    · rename_i e2
      rw [revQ_get hk]
      by_cases c : k < i ∨ n ≤ k + i
      · rw [if_pos c, if_pos (by omega)]
      · rw [if_neg c, if_neg (by omega)]
def rvX (tb p n : Nat) (xs : List Int) (i j : Int) : Sta := ⟨frameOf 28 [(0, .bsl 0 p 0 n), (2, .int .i64 i), (3, .int .i64 j)], [.buf tb .u8 xs]⟩
noncomputable def rvBody : Code := loopOf (theB 0 (bodyOf Tryd.f185))
theorem rvRound (g tb p n : Nat) (xs : List Int) (hx : xs.length = n) (hn : n ≤ 1000000000) (i : Nat) (h : i < n - 1 - i) :
    RunTo (env []) g [] 1 rvBody (rvX tb p n (revQ n xs i) i ((n - 1 - i : Nat) : Int)) .normal (rvX tb p n (revQ n xs (i + 1)) ((i + 1 : Nat) : Int) ((n - 1 - (i + 1) : Nat) : Int)) := by
  have w1 : IntKind.wrap .i64 ((i : Int) + 1) = ((i + 1 : Nat) : Int) := wrapi (i + 1) (by omega)
  have w2 : IntKind.wrap .i64 (((n - 1 - i : Nat) : Int) - 1) = ((n - 1 - (i + 1) : Nat) : Int) := by rw [wrapI (by omega) (by omega)]; omega
  have hl := revQ_len n xs i
  rw [← revQ_step hx h]
  generalize revQ n xs i = ys at *
  generalize hj : n - 1 - i = j at *
  refine goR (env_nil g) ⟨[9], [3]⟩ [] 90 [true] [0, 2, 3] (by kernel_rfl) trivial (X := rvX tb p n ys i (j : Nat))
    (Y0 := rvX tb p n (List.set (List.set ys (0 + (i : Int).toNat) (List.getD ys (0 + (j : Int).toNat) 0)) (0 + (j : Int).toNat) (List.getD ys (0 + (i : Int).toNat) 0)) (IntKind.wrap .i64 ((i : Int) + 1)) (IntKind.wrap .i64 ((j : Int) - 1)))
    (cs := [.tt (decide ((i : Int) < (j : Int)) == true), .ile 0 (j : Int), .ilt (j : Int) (n : Int), .le (0 + n) ys.length, .lt (0 + (j : Int).toNat) ys.length, .ile 0 (i : Int), .ilt (i : Int) (n : Int), .le (0 + n) ys.length, .lt (0 + (i : Int).toNat) ys.length, .ile 0 (i : Int), .ilt (i : Int) (n : Int), .le (0 + n) ys.length, .lt (0 + (i : Int).toNat) ys.length, .ile 0 (j : Int), .ilt (j : Int) (n : Int),
      .le (0 + n) (List.length (List.set ys (0 + (i : Int).toNat) (List.getD ys (0 + (j : Int).toNat) 0))), .lt (0 + (j : Int).toNat) (List.length (List.set ys (0 + (i : Int).toNat) (List.getD ys (0 + (j : Int).toNat) 0)))])
    (by kernel_rfl) (by kernel_rfl) ?_ ?_
  · refine ⟨?_, ?_, ?_, ?_, ?_, ?_, ?_, ?_, ?_, ?_, ?_, ?_, ?_, ?_, ?_, ?_, ?_, trivial⟩ <;> simp only [Cond.holds, List.length_set, hl, toNat_cast, Nat.zero_add] <;> first | omega | (simp; omega)
  · rw [w1, w2]; rfl
theorem rvExit (g tb p n : Nat) (xs : List Int) (i j : Int) (h : ¬ i < j) : RunTo (env []) g [] 1 rvBody (rvX tb p n xs i j) (.exit 0) (rvX tb p n xs i j) := by
  refine goR (env_nil g) ⟨[9], []⟩ [] 90 [false] [0, 2, 3] (by kernel_rfl) trivial (X := rvX tb p n xs i j) (cs := [.tt (decide (i < j) == false)]) (by kernel_rfl) (by kernel_rfl) ⟨?_, trivial⟩ rfl
  show (decide (i < j) == false) = true
  rw [decide_eq_false h]; rfl
theorem rvLoop (g tb p n : Nat) (xs : List Int) (hx : xs.length = n) (h0 : 0 < n) (hn : n ≤ 1000000000) :
    ∃ i j : Int, RunTo (env []) g [] 1 (.block 0 (theB 0 (bodyOf Tryd.f185))) (rvX tb p n xs 0 ((n - 1 : Nat) : Int)) .normal (rvX tb p n xs.reverse i j) := by
  have e : theB 0 (bodyOf Tryd.f185) = .loop rvBody := by kernel_rfl
  rw [e]
  let m := n / 2
  refine ⟨(m : Nat), ((n - 1 - m : Nat) : Int), RunTo.block (?_ : RunTo (env []) g [] 1 (.loop rvBody) _ (.exit 0) _)⟩
  have key := RunTo.loop (E := env []) (g := g) (ds := []) (n0 := 1) (c := rvBody) (fun i => i ≤ m) (fun i => m - i) (fun i => rvX tb p n (revQ n xs i) (i : Nat) ((n - 1 - i : Nat) : Int)) (fun _ => (.exit 0, rvX tb p n xs.reverse (m : Nat) ((n - 1 - m : Nat) : Int))) ?_ 0 (Nat.zero_le _)
  · have e0 : revQ n xs 0 = xs := by rw [← hx]; exact revQ_zero xs
    simp only [e0, Nat.sub_zero] at key
    exact key
  · intro i hi
    by_cases h : i < m
    · exact .inl ⟨i + 1, by omega, by omega, rfl, rvRound g tb p n xs hx hn i (by omega)⟩
    · have : i = m := by omega
      subst this
      refine .inr ⟨(by intro h; cases h), ?_⟩
      have h2 := rvExit g tb p n (revQ n xs m) (m : Nat) ((n - 1 - m : Nat) : Int) (by omega)
      rw [revQ_end hx (by omega)] at h2 ⊢
      exact h2
def fRev : Spec := fun args H =>
  match args, H with
  | [.bsl 0 p 0 n], [.buf tb .u8 xs] => some (.tuple [], [.buf tb .u8 xs.reverse], [.prop (xs.length = n), .lt 0 n, .le n 1000000000])
  | _, _ => none
theorem okRev (g : Nat) : Ok g 185 fRev := by
  intro args H r H' c h hc L w hs hg hok
  unfold fRev at h
  split at h
  case h_2 => cases h
  rename_i p n tb xs
  simp only [Option.some.injEq, Prod.mk.injEq] at h
  obtain ⟨rfl, rfl, rfl⟩ := h
  obtain ⟨h1, h2, h3, _⟩ := hc
  have h1 : xs.length = n := h1
  have h2 : 0 < n := h2
  have h3 : n ≤ 1000000000 := h3
  obtain ⟨i, j, hl⟩ := rvLoop g tb p n xs h1 h2 h3
  have w1 : IntKind.wrap .i64 ((n : Int) - 1) = ((n - 1 : Nat) : Int) := by rw [wrapI (by omega) (by omega)]; omega
  have hB : sumsOk (env []) g [] 1 (bodyOf Tryd.f185) [toldB 1 0 [0, 2, 3] (rvX tb p n xs 0 ((n - 1 : Nat) : Int)) .normal (rvX tb p n xs.reverse i j)] := ⟨toldB_ok (id := 0) hl, trivial⟩
  refine goB (H := [.buf tb .u8 xs]) (env_nil g) noO _ 90 [] Tryd.func185 (by kernel_rfl) (by kernel_rfl) (by kernel_rfl) hB (H0 := [.buf tb .u8 xs.reverse])
    (cs := [.prop (AlikeS (rvX tb p n xs 0 (IntKind.wrap .i64 ((n : Int) - 1))) (rvX tb p n xs 0 ((n - 1 : Nat) : Int)))]) (by kernel_rfl) (by kernel_rfl) ⟨?_, trivial⟩ (Alike.refl _) rfl hs hg hok
  show AlikeS _ _
  rw [w1]
  exact AlikeS.refl _
theorem okClone (g : Nat) : Ok g 184 fClone := by
  intro args H r H' c h hc L w hs hg hok
  unfold fClone at h
  split at h
  case h_2 => cases h
  rename_i p off len tb xs
  simp only [Option.some.injEq, Prod.mk.injEq] at h
  obtain ⟨rfl, rfl, rfl⟩ := h
  obtain ⟨h1, h2, h3, _⟩ := hc
  have h3 : len ≤ 1000000000 := h3
  exact go (env_nil g) ⟨[], [1, 3]⟩ 90 [] Tryd.func184 (by kernel_rfl) (by kernel_rfl) (cs := [.lt 0 xs.length, .le 0 0, .le (off + len) xs.length, .le (0 + len) 1099511627776]) (r0 := .bsl 1 0 0 (0 + len)) (H0 := [.buf tb .u8 xs, .buf 5 .u8 ((xs.drop off).take len)]) (by kernel_rfl) (by kernel_rfl) ⟨h2, Nat.le_refl _, h1, (by show 0 + len ≤ _; omega), trivial⟩ (alike_eq (by rw [Nat.zero_add])) rfl hs hg hok
/-- bytes as a number, the lowest first -/
def le (l : List Int) : Nat := be l.reverse
noncomputable def v1 : List (FuncId × Spec) := [(184, fClone), (185, fRev)] ++ l9
theorem v1_ok (g : Nat) : EnvOk (env v1) g := env_cons (okClone g) (env_cons (okRev g) (l9_ok g))
def fLow : Spec := fun args H =>
  match args, H with
  | [.bsl 0 p off len], [.buf tb .u8 xs] => some (.w4 (le ((xs.drop off).take len)), [.buf tb .u8 xs], [.le (off + len) xs.length, .lt 0 len, .le len 32, .prop (isB xs)])
  | _, _ => none
theorem isB_cut {xs : List Int} (h : isB xs) (off len : Nat) : isB ((xs.drop off).take len) := fun x hx => h x (List.mem_of_mem_drop (List.mem_of_mem_take hx))
theorem isB_rev {xs : List Int} (h : isB xs) : isB xs.reverse := fun x hx => h x (List.mem_reverse.1 hx)
theorem okLow (g : Nat) : Ok g 107 fLow := by
  intro args H r H' c h hc L w hs hg hok
  unfold fLow at h
  split at h
  case h_2 => cases h
  rename_i p off len tb xs
  simp only [Option.some.injEq, Prod.mk.injEq] at h
  obtain ⟨rfl, rfl, rfl⟩ := h
  obtain ⟨h1, h2, h3, h4, _⟩ := hc
  have h1 : off + len ≤ xs.length := h1
  have h2 : 0 < len := h2
  have h3 : len ≤ 32 := h3
  have hl : ((xs.drop off).take len).length = len := by simp; omega
  refine go (v1_ok g) noO 90 [] Tryd.func107 (by kernel_rfl) (by kernel_rfl) (r0 := .w4 (be (List.take len (List.drop 0 (List.reverse (List.take len (List.drop off xs))))))) (H0 := [.buf tb .u8 xs])
    (cs := [.le (off + len) xs.length, .lt 0 xs.length, .le len 1000000000, .prop (((xs.drop off).take len).length = len), .lt 0 len, .le len 1000000000, .le len 32, .le (0 + len) (List.reverse (List.take len (List.drop off xs))).length, .prop (isB (List.reverse (List.take len (List.drop off xs))))])
    (by kernel_rfl) (by kernel_rfl) ⟨h1, (by show 0 < xs.length; omega), (by show len ≤ _; omega), hl, h2, (by show len ≤ _; omega), h3, (by show _ ≤ _; rw [List.length_reverse, hl]; omega), isB_rev (isB_cut h4 _ _), trivial⟩ (alike_eq ?_) rfl hs hg hok
  have e : List.take len (List.drop 0 (List.reverse (List.take len (List.drop off xs)))) = (List.take len (List.drop off xs)).reverse := by
    rw [List.drop_zero, List.take_of_length_le (by rw [List.length_reverse, hl]; exact Nat.le_refl _)]
  rw [e]
  rfl
def fLowB : Spec := fun args H =>
  match args, H with
  | [.w4 n], [] => some (.bsl 0 0 0 32, [.buf 5 .u8 (toB 32 n).reverse], [])
  | _, _ => none
theorem okLowB (g : Nat) : Ok g 156 fLowB := by
  intro args H r H' c h hc L w hs hg hok
  unfold fLowB at h
  split at h
  case h_2 => cases h
  rename_i n
  simp only [Option.some.injEq, Prod.mk.injEq] at h
  obtain ⟨rfl, rfl, rfl⟩ := h
  exact go (v1_ok g) noO 90 [] Tryd.func156 (by kernel_rfl) (by kernel_rfl) (cs := [.prop ((toB 32 n).length = 32), .lt 0 32, .le 32 1000000000]) (by kernel_rfl) (by kernel_rfl) ⟨by show (toB 32 n).length = 32; simp [toB], ck rfl, ck rfl, trivial⟩ (Alike.refl _) rfl hs hg hok
end Go.Am.Sl
namespace Go.Am.Sl
open Go.Am Go.Proofs
/- ROOTS MODULO 2^255 - 19 -/
/-- rows of four numbers as one number; elements stay -/
def asA : AVal → AVal
  | .fe k x => .fe k x
  | v => asW v
def asAs : List AVal → List Cond
  | [] => []
  | v :: vs => asC v ++ asAs vs
theorem asA_conc (L : Nat → Loc) (v : AVal) (h : All (asC v)) : AVal.conc L (asA v) = AVal.conc L v := by
  unfold asA
  split
  · rfl
  · exact asW_conc L v h
theorem asA_ok {A : Nat → Prop} {v : AVal} (h : AVal.ok A v) : AVal.ok A (asA v) := by
  unfold asA
  split
  · exact h
  · exact asW_ok h
def wideA (F : Spec) : Spec := fun args H =>
  match F (args.map asA) H with
  | some (r, H', c) => some (r, H', asAs args ++ c)
  | none => none
theorem asAs_ok (L : Nat → Loc) : ∀ (vs : List AVal), All (asAs vs) → AVal.concs L (vs.map asA) = AVal.concs L vs
  | [], _ => rfl
  | v :: vs, h => by
    obtain ⟨h1, h2⟩ := (All_append _ _).1 h
    simp only [List.map_cons, AVal.concs, asA_conc L v h1, asAs_ok L vs h2]
theorem wideA_ok {g : Nat} {f : FuncId} {F : Spec} (h : Ok g f F) : Ok g f (wideA F) := by
  intro args H r H' c hF hc L w hs hg hok
  unfold wideA at hF
  split at hF
  case h_2 => cases hF
  rename_i r1 H1 c1 hF1
  simp only [Option.some.injEq, Prod.mk.injEq] at hF
  obtain ⟨rfl, rfl, rfl⟩ := hF
  obtain ⟨hc1, hc2⟩ := (All_append _ _).1 hc
  rw [← asAs_ok L args hc1]
  refine h _ H r1 H1 c1 hF1 hc2 L w hs hg ?_
  rw [AVal.oks_iff] at *
  intro v hv
  obtain ⟨u, hu, rfl⟩ := List.mem_map.1 hv
  exact asA_ok (hok u hu)
/-- the modulus, shifted down -/
def fShift : Spec := fun args H =>
  match args, H with
  | [.w4 n, .int .i64 b], [] => bif Nat.beq n (Pk 0) && decide (b = 2) then some (.w4 (Pk 0 / 4), [], []) else bif Nat.beq n (Pk 0) && decide (b = 3) then some (.w4 (Pk 0 / 8), [], []) else none
  | _, _ => none
theorem shiftR {g : Nat} {b n : Nat} (h1 : vals1 (outF 0 (runF (env []) noO [] 400 Tryd.f237 [] [.w4 (Pk 0), .int .i64 b] [])).1 = some ([.arr .u64 4 [limb n 0, limb n 1, limb n 2, limb n 3]], []))
    (h2 : (outF 0 (runF (env []) noO [] 400 Tryd.f237 [] [.w4 (Pk 0), .int .i64 b] [])).2.1 = (outF 0 (runF (env []) noO [] 400 Tryd.f237 [] [.w4 (Pk 0), .int .i64 b] [])).2.2)
    (hc : openC (conds1 (outF 0 (runF (env []) noO [] 400 Tryd.f237 [] [.w4 (Pk 0), .int .i64 b] [])).1) = []) {L : Nat → Loc} {w : World} (hs : Sim g L [] w) (hg : GlobsOk glob g w) :
    CallF P 237 (AVal.concs L [.w4 (Pk 0), .int .i64 b]).toArray w (Back g L [] w (.w4 n) []) := by
  have := goS (H := []) (args := [.w4 (Pk 0), .int .i64 b]) (env_nil g) noO 400 [] Tryd.func237 (by kernel_rfl) (by kernel_rfl) h1 h2 hc hs hg ⟨trivial, trivial, trivial⟩
  exact this.mono fun e w' h => h.alike (alike_w4 rfl rfl rfl rfl)
theorem okShift (g : Nat) : Ok g 237 fShift := by
  intro args H r H' c h hc L w hs hg hok
  unfold fShift at h
  split at h
  case h_2 => cases h
  rename_i n b
  cases h1 : Nat.beq n (Pk 0) with
  | false => simp [h1] at h
  | true =>
    obtain rfl := Nat.eq_of_beq_eq_true h1
    simp only [h1, Bool.true_and] at h
    by_cases e2 : b = 2
    · subst e2
      simp only [decide_true, cond_true, Option.some.injEq, Prod.mk.injEq] at h
      obtain ⟨rfl, rfl, rfl⟩ := h
      exact shiftR (b := 2) (n := Pk 0 / 4) (by kernel_rfl) (by kernel_rfl) (by kernel_rfl) hs hg
    · by_cases e3 : b = 3
      · subst e3
        simp only [decide_eq_false e2, decide_true, cond_true, cond_false, Option.some.injEq, Prod.mk.injEq] at h
        obtain ⟨rfl, rfl, rfl⟩ := h
        exact shiftR (b := 3) (n := Pk 0 / 8) (by kernel_rfl) (by kernel_rfl) (by kernel_rfl) hs hg
      · simp only [decide_eq_false e2, decide_eq_false e3, cond_false] at h
        cases h
noncomputable def v2 : List (FuncId × Spec) := [(107, fLow), (156, fLowB), (211, wide fPlus), (237, fShift), (216, wideA fPow)] ++ v1
theorem v2_ok (g : Nat) : EnvOk (env v2) g :=
  env_cons (okLow g) (env_cons (okLowB g) (env_cons (wide_ok (okPlus g)) (env_cons (okShift g) (env_cons (wideA_ok (okPow g)) (v1_ok g)))))
end Go.Am.Sl
namespace Go.Am.Sl
open Go.Am Go.Proofs Kr Gp
/- THE EVEN ROOT -/
def sN : Nat := 7237005577332262213973186563042994240829374041602535252466099000494570602494
def sM : Nat := 14474011154664524427946373126085988481658748083205070504932198000989141204987
def lm (x : Int) : List Int := [limb (mform 0 x) 0, limb (mform 0 x) 1, limb (mform 0 x) 2, limb (mform 0 x) 3]
theorem lm_eq (x y : Int) : eqIs (lm x) (lm y) = feq 0 x y := eqIs_fe 0 x y
def root1 (x : Int) : Int := bif feq 0 (powI x sN * powI x sN) x then powI x sN else powI x sN * powI 2 sM
/-- is its number odd? -/
def oddF (r : Int) : Bool := bitsI .and .u64 (limb (r % (Pk 0 : Nat)).toNat 0) 1 == 1
def rootE (x : Int) : Int := bif oddF (root1 x) then 0 - root1 x else root1 x
def rootOk (x : Int) : Prop := feq 0 (root1 x * root1 x) x = true
def fSqrt (rf : Int → Int) : Spec := fun args H =>
  match args, H with
  | [.ptr (some (0, 0)), .fe 0 x], [.obj t (.md 0)] => some (.tuple [.fe 0 (rf x), .bool true], [.obj t (.md 0)], [.prop (rootOk x)])
  | _, _ => none
def sqA : List Cond := [.ile 0 1, .ilt 1 (2 ^ 64), .ile 0 0, .ilt 0 (2 ^ 64), .ile 0 0, .ilt 0 (2 ^ 64), .ile 0 0, .ilt 0 (2 ^ 64), .lt 7237005577332262213973186563042994240829374041602535252466099000494570602493 (2 ^ 256), .lt 1 (2 ^ 256), .tt true, .lt sN (2 ^ 256), .tt true]
def sqB : List Cond := [.ile 0 2, .ilt 2 (2 ^ 64), .tt true, .lt sM (2 ^ 256), .tt true, .tt true]
theorem sqA_ok : All sqA := openC_ok (by rw [show openC sqA = [] by kernel_rfl]; trivial)
theorem sqB_ok : All sqB := openC_ok (by rw [show openC sqB = [] by kernel_rfl]; trivial)
theorem nlm {x y : Int} {b : Bool} (h : feq 0 x y = b) : ((!eqIs (lm x) (lm y)) == !b) = true := by rw [lm_eq, h]; simp
def fPowG (pf : Int → Nat → Int) : Spec := fun args H =>
  match args, H with
  | [.ptr (some (0, 0)), .fe i x, .w4 n], [.obj t (.md k)] => some (.fe k (pf x n), [.obj t (.md k)], [same2 i i k, .lt n (2 ^ 256)])
  | _, _ => none
theorem okPowG {pf : Int → Nat → Int} (h : pf = powI) (g : Nat) : Ok g 216 (fPowG pf) := by
  subst h
  exact okPow g
noncomputable def v3 (pf : Int → Nat → Int) : List (FuncId × Spec) := (216, wideA (fPowG pf)) :: v2
theorem v3_ok {pf : Int → Nat → Int} (h : pf = powI) (g : Nat) : EnvOk (env (v3 pf)) g := env_cons (wideA_ok (okPowG h g)) (v2_ok g)
theorem okSqrt (g : Nat) : Ok g 217 (fSqrt rootE) := by
  intro args H r H' c h hc L w hs hg hok
  unfold fSqrt at h
  split at h
  case h_2 => cases h
  rename_i x t
  simp only [Option.some.injEq, Prod.mk.injEq] at h
  obtain ⟨rfl, rfl, rfl⟩ := h
  have hr : rootOk x := hc.1
  unfold rootOk at hr
  unfold rootE
  obtain ⟨pf, hpf⟩ : ∃ pf : Int → Nat → Int, pf = powI := ⟨_, rfl⟩
  unfold root1 at hr ⊢
  rw [← hpf] at hr ⊢
  cases h1 : feq 0 (pf x sN * pf x sN) x with
  | true =>
    simp only [cond_true]
    cases h2 : oddF (pf x sN) with
    | true =>
      simp only [cond_true]
      exact go (v3_ok hpf g) ⟨[50, 67, 74], []⟩ 90 [false, false, true] Tryd.func217 (by kernel_rfl) (by kernel_rfl)
        (cs := sqA ++ [.tt ((!eqIs (lm (pf x sN * pf x sN)) (lm x)) == false), .tt true, .tt ((!eqIs (lm (pf x sN * pf x sN)) (lm x)) == false), .tt true, .tt (oddF (pf x sN) == true), .tt true]) (by kernel_rfl) (by kernel_rfl)
        (by exact (All_append _ _).2 ⟨sqA_ok, nlm h1, rfl, nlm h1, rfl, (by show (oddF (pf x sN) == true) = true; rw [h2]; rfl), rfl, trivial⟩) (Alike.refl _) rfl hs hg hok
    | false =>
      simp only [cond_false]
      exact go (v3_ok hpf g) ⟨[50, 67, 74], []⟩ 90 [false, false, false] Tryd.func217 (by kernel_rfl) (by kernel_rfl)
        (cs := sqA ++ [.tt ((!eqIs (lm (pf x sN * pf x sN)) (lm x)) == false), .tt true, .tt ((!eqIs (lm (pf x sN * pf x sN)) (lm x)) == false), .tt true, .tt (oddF (pf x sN) == false)]) (by kernel_rfl) (by kernel_rfl)
        (by exact (All_append _ _).2 ⟨sqA_ok, nlm h1, rfl, nlm h1, rfl, (by show (oddF (pf x sN) == false) = true; rw [h2]; rfl), trivial⟩) (Alike.refl _) rfl hs hg hok
  | false =>
    simp only [h1, cond_false] at hr ⊢
    cases h2 : oddF (pf x sN * pf 2 sM) with
    | true =>
      simp only [cond_true]
      exact go (v3_ok hpf g) ⟨[50, 67, 74], []⟩ 90 [true, false, true] Tryd.func217 (by kernel_rfl) (by kernel_rfl)
        (cs := sqA ++ (.tt ((!eqIs (lm (pf x sN * pf x sN)) (lm x)) == true) :: (sqB ++ [.tt ((!eqIs (lm (pf x sN * pf 2 sM * (pf x sN * pf 2 sM))) (lm x)) == false), .tt true, .tt (oddF (pf x sN * pf 2 sM) == true), .tt true]))) (by kernel_rfl) (by kernel_rfl)
        (by exact (All_append _ _).2 ⟨sqA_ok, nlm h1, (All_append _ _).2 ⟨sqB_ok, nlm hr, rfl, (by show (oddF (pf x sN * pf 2 sM) == true) = true; rw [h2]; rfl), rfl, trivial⟩⟩) (Alike.refl _) rfl hs hg hok
    | false =>
      simp only [cond_false]
      exact go (v3_ok hpf g) ⟨[50, 67, 74], []⟩ 90 [true, false, false] Tryd.func217 (by kernel_rfl) (by kernel_rfl)
        (cs := sqA ++ (.tt ((!eqIs (lm (pf x sN * pf x sN)) (lm x)) == true) :: (sqB ++ [.tt ((!eqIs (lm (pf x sN * pf 2 sM * (pf x sN * pf 2 sM))) (lm x)) == false), .tt true, .tt (oddF (pf x sN * pf 2 sM) == false)]))) (by kernel_rfl) (by kernel_rfl)
        (by exact (All_append _ _).2 ⟨sqA_ok, nlm h1, (All_append _ _).2 ⟨sqB_ok, nlm hr, rfl, (by show (oddF (pf x sN * pf 2 sM) == false) = true; rw [h2]; rfl), trivial⟩⟩) (Alike.refl _) rfl hs hg hok
/- THE CURVE IN MEMORY -/
def ptE (P : P4 Int) : AVal := .agg [.fe 0 P.x, .fe 0 P.y, .fe 0 P.z, .fe 0 P.t]
end Go.Am.Sl
namespace Go.Am.Sl
open Go.Am Go.Proofs Kr Gp
/- THE CURVE OF SIGNATURES -/
def tt : Cond := .tt true
theorem allTT (n : Nat) : All (List.replicate n tt) := by
  induction n with
  | zero => exact trivial
  | succ n ih => exact ⟨rfl, ih⟩
def cvE (m : Nat) (d gx gy gz gt : Int) : AVal := .agg [.ptr (some (m, 0)), .fe 0 d, .agg [.fe 0 gx, .fe 0 gy, .fe 0 gz, .fe 0 gt]]
def cwE (t t1 : Nat) (d gx gy gz gt : Int) : AHeap := [.obj t (cvE 1 d gx gy gz gt), .obj t1 (.md 0)]
/-- zeros are elements -/
def zeroE (F : Spec) : Spec := fun args H => F (args.map (asZ 0)) H
theorem zeroE_ok {g : Nat} {f : FuncId} {F : Spec} (h : Ok g f F) : Ok g f (zeroE F) := by
  intro args H r H' c hF hc L w hs hg hok
  unfold zeroE at hF
  have e : AVal.concs L (args.map (asZ 0)) = AVal.concs L args := by
    simp only [AVal.concs_map, List.map_map]
    apply List.map_congr_left
    intro v _
    exact asZ_conc 0 L v
  rw [← e]
  refine h _ _ r H' c hF hc L w hs hg ?_
  rw [AVal.oks_iff] at *
  intro v hv
  obtain ⟨u, hu, rfl⟩ := List.mem_map.1 hv
  exact asZ_ok (hok u hu)
def fAffE : Spec := fun args H =>
  match args, H with
  | [.ptr (some (0, 0)), .fe 0 x, .fe 0 y], [.obj t (.agg [.ptr (some (1, 0)), .fe 0 d, .agg [.fe 0 gx, .fe 0 gy, .fe 0 gz, .fe 0 gt]]), .obj t1 (.md 0)] =>
    some (ptE ⟨x, y, 1, x * y⟩, cwE t t1 d gx gy gz gt, [])
  | _, _ => none
noncomputable def v4 (rf : Int → Int) : List (FuncId × Spec) := (217, fSqrt rf) :: v2
theorem v4_ok {rf : Int → Int} (h : rf = rootE) (g : Nat) : EnvOk (env (v4 rf)) g := by
  subst h
  exact env_cons (okSqrt g) (v2_ok g)
theorem okAffE (g : Nat) : Ok g 182 fAffE := by
  intro args H r H' c h hc L w hs hg hok
  unfold fAffE at h
  split at h
  case h_2 => cases h
  simp only [Option.some.injEq, Prod.mk.injEq] at h
  obtain ⟨rfl, rfl, rfl⟩ := h
  exact go (v2_ok g) noO 90 [] Tryd.func182 (by kernel_rfl) (by kernel_rfl) (cs := [tt]) (by kernel_rfl) (by kernel_rfl) (allTT 1) (Alike.refl _) rfl hs hg hok
def fNothingE : Spec := fun args H =>
  match args, H with
  | [.ptr (some (0, 0))], [.obj t (.agg [.ptr (some (1, 0)), .fe 0 d, .agg [.fe 0 gx, .fe 0 gy, .fe 0 gz, .fe 0 gt]]), .obj t1 (.md 0)] => some (ptE ⟨0, 1, 1, 0 * 1⟩, cwE t t1 d gx gy gz gt, [])
  | _, _ => none
theorem okNothingE (g : Nat) : Ok g 183 fNothingE := by
  intro args H r H' c h hc L w hs hg hok
  unfold fNothingE at h
  split at h
  case h_2 => cases h
  simp only [Option.some.injEq, Prod.mk.injEq] at h
  obtain ⟨rfl, rfl, rfl⟩ := h
  exact go (env_cons (zeroE_ok (okAffE g)) (v2_ok g)) noO 90 [] Tryd.func183 (by kernel_rfl) (by kernel_rfl) (cs := []) (by kernel_rfl) (by kernel_rfl) trivial (Alike.refl _) rfl hs hg hok
def rootA (d y : Int) : Int := (y * y - 1) * powI (d * (y * y) + 1) (Pk 0 - 2)
def fRootE (rf : Int → Int) : Spec := fun args H =>
  match args, H with
  | [.ptr (some (0, 0)), .fe 0 y], [.obj t (.agg [.ptr (some (1, 0)), .fe 0 d, .agg [.fe 0 gx, .fe 0 gy, .fe 0 gz, .fe 0 gt]]), .obj t1 (.md 0)] =>
    some (.tuple [.fe 0 (rf (rootA d y)), .bool true], cwE t t1 d gx gy gz gt, [.prop (rootOk (rootA d y))])
  | _, _ => none
theorem okRootE {rf : Int → Int} (h : rf = rootE) (g : Nat) : Ok g 181 (fRootE rf) := by
  intro args H r H' c h1 hc L w hs hg hok
  unfold fRootE at h1
  split at h1
  case h_2 => cases h1
  rename_i y t d gx gy gz gt t1
  simp only [Option.some.injEq, Prod.mk.injEq] at h1
  obtain ⟨rfl, rfl, rfl⟩ := h1
  exact go (v4_ok h g) noO 90 [] Tryd.func181 (by kernel_rfl) (by kernel_rfl) (cs := [tt, tt, tt, tt, tt, tt, .prop (rootOk (rootA d y))]) (by kernel_rfl) (by kernel_rfl) ⟨rfl, rfl, rfl, rfl, rfl, rfl, hc.1, trivial⟩ (Alike.refl _) rfl hs hg hok
def fPlusE : Spec := fun args H =>
  match args, H with
  | [.ptr (some (0, 0)), .agg [.fe 0 x1, .fe 0 y1, .fe 0 z1, .fe 0 t1], .agg [.fe 0 x2, .fe 0 y2, .fe 0 z2, .fe 0 t2]], [.obj t (.agg [.ptr (some (1, 0)), .fe 0 d, .agg [.fe 0 gx, .fe 0 gy, .fe 0 gz, .fe 0 gt]]), .obj ty (.md 0)] =>
    some (ptE (eplus Ops.int d ⟨x1, y1, z1, t1⟩ ⟨x2, y2, z2, t2⟩), cwE t ty d gx gy gz gt, [])
  | _, _ => none
theorem okPlusE (g : Nat) : Ok g 108 fPlusE := by
  intro args H r H' c h hc L w hs hg hok
  unfold fPlusE at h
  split at h
  case h_2 => cases h
  simp only [Option.some.injEq, Prod.mk.injEq] at h
  obtain ⟨rfl, rfl, rfl⟩ := h
  exact go (v2_ok g) noO 90 [] Tryd.func108 (by kernel_rfl) (by kernel_rfl) (cs := List.replicate 19 tt) (by kernel_rfl) (by kernel_rfl) (allTT 19) (Alike.refl _) rfl hs hg hok
/- TIMES -/
noncomputable def v5 : List (FuncId × Spec) := [(183, fNothingE), (108, fPlusE)] ++ v2
theorem v5_ok (g : Nat) : EnvOk (env v5) g := env_cons (okNothingE g) (env_cons (okPlusE g) (v2_ok g))
def ptZE : AVal := .agg [.w4 0, .w4 0, .w4 0, .w4 0]
def teX (t t1 : Nat) (d gx gy gz gt : Int) (n : Nat) (P O : P4 Int) (i : Int) : Sta := ⟨tmF i, [.obj t (cvE 1 d gx gy gz gt), .obj t1 (.md 0), .obj 119 (.w4 n), .obj 135 (ptE P), .obj 135 ptZE, .obj 135 (ptE O)]⟩
noncomputable def teBody : Code := loopOf (theB 0 (bodyOf Tryd.f106))
theorem teRound (g t t1 : Nat) (d gx gy gz gt : Int) (n : Nat) (P O : P4 Int) (i : Nat) (hi : i < 256) : RunTo (env v5) g [] 2 teBody (teX t t1 d gx gy gz gt n P O i) .normal (teX t t1 d gx gy gz gt n P (if n / 2 ^ i % 2 = 1 then eplus Ops.int d (eplus Ops.int d O O) P else eplus Ops.int d O O) ((i : Int) - 1)) := by
  have hw : IntKind.wrap .i64 ((i : Int) - 1) = (i : Int) - 1 := wrapI (by omega) (by omega)
  have c1 : (decide ((i : Int) ≥ 0) == true) = true := by simp
  have c2 : (0 : Int) ≤ (i : Nat) := Int.natCast_nonneg _
  have c3 : ((i : Nat) : Int) < 256 := by omega
  by_cases hb : n / 2 ^ i % 2 = 1
  · rw [if_pos hb]
    refine goR (v5_ok g) ⟨[12, 22], []⟩ [] 90 [true, true] [0, 4, 5, 6, 7, 8] (by kernel_rfl) trivial (X := teX t t1 d gx gy gz gt n P O i) (Y0 := teX t t1 d gx gy gz gt n P (eplus Ops.int d (eplus Ops.int d O O) P) (IntKind.wrap .i64 ((i : Int) - 1)))
      (cs := [.tt (decide ((i : Int) ≥ 0) == true), .ile 0 (i : Nat), .ilt (i : Nat) 256, .tt ((((n / 2 ^ i % 2 : Nat) : Int) == 1) == true)]) (by kernel_rfl) (by kernel_rfl)
      ⟨c1, c2, c3, eq_bool (by rw [hb]; rfl), trivial⟩ (by rw [hw])
  · rw [if_neg hb]
    refine goR (v5_ok g) ⟨[12, 22], []⟩ [] 90 [true, false] [0, 4, 5, 6, 7, 8] (by kernel_rfl) trivial (X := teX t t1 d gx gy gz gt n P O i) (Y0 := teX t t1 d gx gy gz gt n P (eplus Ops.int d O O) (IntKind.wrap .i64 ((i : Int) - 1)))
      (cs := [.tt (decide ((i : Int) ≥ 0) == true), .ile 0 (i : Nat), .ilt (i : Nat) 256, .tt ((((n / 2 ^ i % 2 : Nat) : Int) == 1) == false)]) (by kernel_rfl) (by kernel_rfl)
      ⟨c1, c2, c3, ne_bool (by omega), trivial⟩ (by rw [hw])
theorem teExit (g t t1 : Nat) (d gx gy gz gt : Int) (n : Nat) (P O : P4 Int) : RunTo (env v5) g [] 2 teBody (teX t t1 d gx gy gz gt n P O (-1)) (.exit 0) (teX t t1 d gx gy gz gt n P O (-1)) :=
  goR (v5_ok g) noO [] 90 [] [0, 4, 5, 6, 7, 8] (by kernel_rfl) trivial (X := teX t t1 d gx gy gz gt n P O (-1)) (cs := []) (by kernel_rfl) (by kernel_rfl) trivial rfl
def eO : P4 Int := ⟨0, 1, 1, 0 * 1⟩
theorem teLoop (g t t1 : Nat) (d gx gy gz gt : Int) (n : Nat) (P : P4 Int) : ∀ (O : P4 Int), RunTo (env v5) g [] 2 (.block 0 (theB 0 (bodyOf Tryd.f106))) (teX t t1 d gx gy gz gt n P O 255) .normal (teX t t1 d gx gy gz gt n P (tms (eplus Ops.int d) eO n P 256 O) (-1)) := by
  intro O
  have e : theB 0 (bodyOf Tryd.f106) = .loop teBody := by kernel_rfl
  rw [e]
  generalize hR : tms (eplus Ops.int d) eO n P 256 O = R
  let it : Nat → P4 Int := fun j => Nat.rec O (fun k acc => if n / 2 ^ (255 - k) % 2 = 1 then eplus Ops.int d (eplus Ops.int d acc acc) P else eplus Ops.int d acc acc) j
  have hit : ∀ j, j ≤ 256 → tms (eplus Ops.int d) eO n P (256 - j) (it j) = R := by
    intro j
    induction j with
    | zero => intro _; exact hR
    | succ j ih =>
      intro hj
      have h2 := ih (by omega)
      have e1 : 256 - j = (256 - (j + 1)) + 1 := by omega
      rw [e1] at h2
      simp only [tms] at h2
      have e2 : 256 - (j + 1) = 255 - j := by omega
      rw [e2] at h2 ⊢
      exact h2
  have key := RunTo.loop (E := env v5) (g := g) (ds := []) (n0 := 2) (c := teBody) (fun j => j ≤ 256) (fun j => 256 - j) (fun j => teX t t1 d gx gy gz gt n P (it j) (255 - (j : Int))) (fun _ => (.exit 0, teX t t1 d gx gy gz gt n P R (-1))) ?_ 0 (by decide)
  · exact RunTo.block key
  · intro j hj
    rcases Nat.lt_or_ge j 256 with h | h
    · refine .inl ⟨j + 1, by omega, by omega, rfl, ?_⟩
      have := teRound g t t1 d gx gy gz gt n P (it j) (255 - j) (by omega)
      have e1 : (((255 - j : Nat) : Int)) = 255 - (j : Int) := by omega
      have e2 : (255 - (j : Int)) - 1 = 255 - ((j + 1 : Nat) : Int) := by omega
      rw [e1, e2] at this
      exact this
    · have hj : j = 256 := by omega
      subst hj
      refine .inr ⟨(by intro h; cases h), ?_⟩
      have h3 : it 256 = R := hit 256 (by decide)
      simp only [h3]
      exact teExit g t t1 d gx gy gz gt n P R
def fTimesE : Spec := fun args H =>
  match args, H with
  | [.ptr (some (0, 0)), .w4 n, .agg [.fe 0 x, .fe 0 y, .fe 0 z, .fe 0 u]], [.obj t (.agg [.ptr (some (1, 0)), .fe 0 d, .agg [.fe 0 gx, .fe 0 gy, .fe 0 gz, .fe 0 gt]]), .obj t1 (.md 0)] =>
    some (ptE (tms (eplus Ops.int d) eO n ⟨x, y, z, u⟩ 256 eO), cwE t t1 d gx gy gz gt, [])
  | _, _ => none
theorem okTimesE (g : Nat) : Ok g 106 fTimesE := by
  intro args H r H' c h hc L w hs hg hok
  unfold fTimesE at h
  split at h
  case h_2 => cases h
  rename_i n x y z u t d gx gy gz gt t1
  simp only [Option.some.injEq, Prod.mk.injEq] at h
  obtain ⟨rfl, rfl, rfl⟩ := h
  generalize hR : tms (eplus Ops.int d) eO n ⟨x, y, z, u⟩ 256 eO = R
  have hB : sumsOk (env v5) g [] 2 (bodyOf Tryd.f106) [toldB 2 0 [0, 4, 5, 6, 7, 8] (teX t t1 d gx gy gz gt n ⟨x, y, z, u⟩ eO 255) .normal (teX t t1 d gx gy gz gt n ⟨x, y, z, u⟩ R (-1))] := ⟨toldB_ok (id := 0) (hR ▸ teLoop g t t1 d gx gy gz gt n ⟨x, y, z, u⟩ eO), trivial⟩
  exact goB (H := [.obj t (cvE 1 d gx gy gz gt), .obj t1 (.md 0)]) (v5_ok g) noO _ 90 [] Tryd.func106 (by kernel_rfl) (by kernel_rfl) (by kernel_rfl) hB (r0 := ptE R) (H0 := cwE t t1 d gx gy gz gt)
    (cs := [.prop (AlikeS (teX t t1 d gx gy gz gt n ⟨x, y, z, u⟩ eO 255) (teX t t1 d gx gy gz gt n ⟨x, y, z, u⟩ eO 255))]) (by kernel_rfl) (by kernel_rfl) ⟨AlikeS.refl _, trivial⟩ (Alike.refl _) rfl hs hg hok
/- BYTES -/
def affJ (x z : Int) : Nat := (x * powI z (Pk 0 - 2) % (Pk 0 : Nat)).toNat
/-- the sign is put into the last byte -/
def sgn (l : List Int) (X : Nat) : List Int := List.set l 31 (bitsI .or .u8 (l.getD 31 0) (IntKind.wrap .u8 (IntKind.wrap .u8 (bitsI .and .u64 (limb X 0) 1) * 128)))
def fLowG (tb : Nat → List Int) : Spec := fun args H =>
  match args, H with
  | [.w4 n], [] => some (.bsl 0 0 0 32, [.buf 5 .u8 (tb n)], [])
  | _, _ => none
def tbL (n : Nat) : List Int := (toB 32 n).reverse
theorem okLowG {tb : Nat → List Int} (h : tb = tbL) (g : Nat) : Ok g 156 (fLowG tb) := by
  subst h
  exact okLowB g
def bytE (P : P4 Int) : List Int := sgn (tbL (affJ P.y P.z)) (affJ P.x P.z)
def fBytesE (by_ : P4 Int → List Int) : Spec := fun args H =>
  match args, H with
  | [.ptr (some (0, 0)), .agg [.fe 0 x, .fe 0 y, .fe 0 z, .fe 0 u]], [.obj t (.agg [.ptr (some (1, 0)), .fe 0 d, .agg [.fe 0 gx, .fe 0 gy, .fe 0 gz, .fe 0 gt]]), .obj t1 (.md 0)] =>
    some (.bsl 2 0 0 32, cwE t t1 d gx gy gz gt ++ [.buf 5 .u8 (by_ ⟨x, y, z, u⟩)], [])
  | _, _ => none
theorem tbL_len (n : Nat) : (tbL n).length = 32 := by simp [tbL, toB]
theorem okBytesE (g : Nat) : Ok g 105 (fBytesE bytE) := by
  intro args H r H' c h hc L w hs hg hok
  unfold fBytesE at h
  split at h
  case h_2 => cases h
  rename_i x y z u t d gx gy gz gt t1
  simp only [Option.some.injEq, Prod.mk.injEq] at h
  obtain ⟨rfl, rfl, rfl⟩ := h
  unfold bytE
  obtain ⟨tb, htb⟩ : ∃ tb, tb = tbL := ⟨_, rfl⟩
  have hl : 31 < (tb (affJ y z)).length ∧ 32 ≤ (tb (affJ y z)).length := by rw [htb, tbL_len]; exact ⟨by decide, by decide⟩
  rw [← htb]
  exact go (env_cons (okLowG htb g) (v2_ok g)) ⟨[], [4]⟩ 90 [] Tryd.func105 (by kernel_rfl) (by kernel_rfl)
    (r0 := .bsl 2 0 0 32) (H0 := cwE t t1 d gx gy gz gt ++ [.buf 5 .u8 (sgn (tb (affJ y z)) (affJ x z))])
    (cs := [tt, tt, tt, tt, tt, .ile 0 31, .ilt 31 32, .le 32 (tb (affJ y z)).length, .lt 31 (tb (affJ y z)).length, .ile 0 0, .ilt 0 4, .lt 0 4, .ile 0 7, .ile 0 31, .ilt 31 32, .le 32 (tb (affJ y z)).length, .lt 31 (tb (affJ y z)).length]) (by kernel_rfl) (by kernel_rfl)
    ⟨rfl, rfl, rfl, rfl, rfl, ck rfl, ck rfl, hl.2, hl.1, ck rfl, ck rfl, ck rfl, ck rfl, ck rfl, ck rfl, hl.2, hl.1, trivial⟩ (Alike.refl _) rfl hs hg hok
end Go.Am.Sl
namespace Go.Am.Sl
open Go.Am Go.Proofs Kr Gp
/- THE CURVE IS MADE -/
def fRootZ (rf : Int → Int) (ra : Int → Int → Int) : Spec := fun args H =>
  match args, H with
  | [.ptr (some (0, 0)), .fe 0 y], [.obj t (.agg [.ptr (some (1, 0)), .fe 0 d, .agg [.w4 0, .w4 0, .w4 0, .w4 0]]), .obj t1 (.md 0)] =>
    some (.tuple [.fe 0 (rf (ra d y)), .bool true], [.obj t (.agg [.ptr (some (1, 0)), .fe 0 d, .agg [.w4 0, .w4 0, .w4 0, .w4 0]]), .obj t1 (.md 0)], [.prop (rootOk (ra d y))])
  | _, _ => none
theorem okRootZ {rf : Int → Int} {ra : Int → Int → Int} (h : rf = rootE) (h' : ra = rootA) (g : Nat) : Ok g 181 (fRootZ rf ra) := by
  subst h'
  intro args H r H' c h1 hc L w hs hg hok
  unfold fRootZ at h1
  split at h1
  case h_2 => cases h1
  rename_i y t d t1
  simp only [Option.some.injEq, Prod.mk.injEq] at h1
  obtain ⟨rfl, rfl, rfl⟩ := h1
  exact go (v4_ok h g) noO 90 [] Tryd.func181 (by kernel_rfl) (by kernel_rfl) (cs := [tt, tt, tt, tt, tt, tt, .prop (rootOk (rootA d y))]) (by kernel_rfl) (by kernel_rfl) ⟨rfl, rfl, rfl, rfl, rfl, rfl, hc.1, trivial⟩ (Alike.refl _) rfl hs hg hok
def fAffZ : Spec := fun args H =>
  match args, H with
  | [.ptr (some (0, 0)), .fe 0 x, .fe 0 y], [.obj t (.agg [.ptr (some (1, 0)), .fe 0 d, .agg [.w4 0, .w4 0, .w4 0, .w4 0]]), .obj t1 (.md 0)] =>
    some (ptE ⟨x, y, 1, x * y⟩, [.obj t (.agg [.ptr (some (1, 0)), .fe 0 d, .agg [.w4 0, .w4 0, .w4 0, .w4 0]]), .obj t1 (.md 0)], [])
  | _, _ => none
theorem okAffZ (g : Nat) : Ok g 182 fAffZ := by
  intro args H r H' c h hc L w hs hg hok
  unfold fAffZ at h
  split at h
  case h_2 => cases h
  simp only [Option.some.injEq, Prod.mk.injEq] at h
  obtain ⟨rfl, rfl, rfl⟩ := h
  exact go (v2_ok g) noO 90 [] Tryd.func182 (by kernel_rfl) (by kernel_rfl) (cs := [tt]) (by kernel_rfl) (by kernel_rfl) (allTT 1) (Alike.refl _) rfl hs hg hok
def fInvG (iv : Int → Int) : Spec := fun args H =>
  match args, H with
  | [.ptr (some (0, 0)), .fe i x], [.obj t (.md k)] => some (.fe k (iv x), [.obj t (.md k)], [.prop (i = k), .prop (k = 0)])
  | _, _ => none
def inv0 (x : Int) : Int := powI x (Pk 0 - 2)
theorem okInvG {iv : Int → Int} (h : iv = inv0) (g : Nat) : Ok g 176 (fInvG iv) := by
  subst h
  intro args H r H' c h1 hc L w hs hg hok
  unfold fInvG at h1
  split at h1
  case h_2 => cases h1
  rename_i i x t k
  simp only [Option.some.injEq, Prod.mk.injEq] at h1
  obtain ⟨rfl, rfl, rfl⟩ := h1
  obtain ⟨e1, e2, _⟩ := hc
  have e1 : i = k := e1
  have e2 : k = 0 := e2
  subst e1 e2
  exact okInv g _ _ _ _ [same2 0 0 0] rfl ⟨same2_rfl 0, trivial⟩ L w hs hg hok
def fFp : Spec := fun args H =>
  match args, H with
  | [], [] => some (.ptr (some (0, 0)), [.obj 209 (.md 0)], [])
  | _, _ => none
theorem okFp (g : Nat) : Ok g 179 fFp := by
  intro args H r H' c h hc L w hs hg hok
  unfold fFp at h
  split at h
  case h_2 => cases h
  simp only [Option.some.injEq, Prod.mk.injEq] at h
  obtain ⟨rfl, rfl, rfl⟩ := h
  exact go (v2_ok g) noO 90 [] Tryd.func179 (by kernel_rfl) (by kernel_rfl) (cs := []) (by kernel_rfl) (by kernel_rfl) trivial (Alike.refl _) rfl hs hg hok
noncomputable def v6 (rf : Int → Int) (ra : Int → Int → Int) (iv : Int → Int) : List (FuncId × Spec) := [(181, fRootZ rf ra), (182, fAffZ), (176, fInvG iv), (179, fFp)] ++ v2
theorem v6_ok {rf : Int → Int} {ra : Int → Int → Int} {iv : Int → Int} (h : rf = rootE) (h1 : ra = rootA) (h2 : iv = inv0) (g : Nat) : EnvOk (env (v6 rf ra iv)) g :=
  env_cons (okRootZ h h1 g) (env_cons (okAffZ g) (env_cons (okInvG h2 g) (env_cons (okFp g) (v2_ok g))))
end Go.Am.Sl
