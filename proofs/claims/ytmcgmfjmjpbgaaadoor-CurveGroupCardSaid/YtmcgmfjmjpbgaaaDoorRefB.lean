/- Part of the proof: RefB. -/
import Derived.Test.YtmcgmfjmjpbgaaaDoorRefA
set_option linter.unusedVariables false
set_option maxRecDepth 100000
namespace Go.Am.Sl
open Go.Am Go.Proofs
/- CLOSED NUMBERS: the conditions are reckoned -/
def isNb (xs : List Int) (off len : Nat) : Bool := Nat.ble (off + len) xs.length && (cut xs off len).all fun x => decide (0 ≤ x) && decide (x < 4294967296)
theorem isNb_ok {xs : List Int} {off len : Nat} (h : isNb xs off len = true) : isN xs off len := by
  simp only [isNb, Bool.and_eq_true, List.all_eq_true, decide_eq_true_eq] at h
  exact ⟨Nat.le_of_ble_eq_true h.1, fun x hx => h.2 x hx⟩
def rowB (v : AVal) (H : AHeap) : Bool :=
  match v with
  | .bsl b _ off len => match H[b]? with
    | some (.buf _ _ xs) => isNb xs off len && Nat.ble len 100000
    | _ => false
  | _ => false
def rowV (v : AVal) (H : AHeap) : Nat :=
  match v with
  | .bsl b _ off len => match H[b]? with
    | some (.buf _ _ xs) => vl xs off len
    | _ => 0
  | _ => 0
def two (F : Spec) (q : AVal → AVal → AHeap → Bool) : Spec := fun args H =>
  match args with
  | [a, b] => bif rowB a H && (rowB b H && q a b H) then
      match F [a, b] H with
      | some (r, H', _) => some (r, H', [])
      | none => none
    else none
  | _ => none
theorem two_ok {g : Nat} {f : FuncId} {F : Spec} {q : AVal → AVal → AHeap → Bool} (h : Ok g f F) (hc : ∀ a b H r H' c, F [a, b] H = some (r, H', c) → rowB a H = true → rowB b H = true → q a b H = true → All c) : Ok g f (two F q) := by
  intro args H r H' c hF hcc L w hs hg hok
  unfold two at hF
  split at hF
  case h_2 => cases hF
  rename_i a b
  obtain ⟨hb, hF⟩ := bif_some hF
  simp only [Bool.and_eq_true] at hb
  split at hF
  case h_2 => cases hF
  rename_i r1 H1 c1 h1
  simp only [Option.some.injEq, Prod.mk.injEq] at hF
  obtain ⟨rfl, rfl, rfl⟩ := hF
  exact h _ _ _ _ _ h1 (hc _ _ _ _ _ _ h1 hb.1 hb.2.1 hb.2.2) L w hs hg hok
def fSumC : Spec := two (fSum vl digs) fun _ _ _ => true
def fMulC : Spec := two (fMulN vl digs) fun _ _ _ => true
def fDifC : Spec := two (fDif vl digs) fun a b H => Nat.ble (rowV b H) (rowV a H)
theorem rowB_ok {b p off len : Nat} {t : TypeId} {k : IntKind} {xs : List Int} {H : AHeap} (hb : H[b]? = some (.buf t k xs)) (h : rowB (.bsl b p off len) H = true) : isN xs off len ∧ len ≤ 100000 := by
  simp only [rowB, hb, Bool.and_eq_true] at h
  exact ⟨isNb_ok h.1, Nat.le_of_ble_eq_true h.2⟩
theorem okSumC (g : Nat) : Ok g 100 fSumC := by
  refine two_ok (okSum rfl rfl g) ?_
  intro a b H r H' c h ha hb _
  unfold fSum at h
  split at h
  case h_3 => cases h
  · rename_i e1
    simp only [Option.some.injEq, Prod.mk.injEq] at h
    obtain ⟨_, _, rfl⟩ := h
    simp only [List.cons.injEq, and_true] at e1
    obtain ⟨rfl, rfl⟩ := e1
    have h1 := rowB_ok rfl ha
    have h2 := rowB_ok rfl hb
    exact ⟨h1.2, h2.2, h1.1, h2.1, trivial⟩
  · rename_i e1
    simp only [Option.some.injEq, Prod.mk.injEq] at h
    obtain ⟨_, _, rfl⟩ := h
    simp only [List.cons.injEq, and_true] at e1
    obtain ⟨rfl, rfl⟩ := e1
    have h1 := rowB_ok rfl ha
    have h2 := rowB_ok rfl hb
    exact ⟨h1.2, h2.2, h1.1, h2.1, trivial⟩
theorem okMulC (g : Nat) : Ok g 162 fMulC := by
  refine two_ok (okMulN rfl rfl g) ?_
  intro a b H r H' c h ha hb _
  unfold fMulN at h
  split at h
  case h_3 => cases h
  · rename_i e1
    simp only [Option.some.injEq, Prod.mk.injEq] at h
    obtain ⟨_, _, rfl⟩ := h
    simp only [List.cons.injEq, and_true] at e1
    obtain ⟨rfl, rfl⟩ := e1
    have h1 := rowB_ok rfl ha
    have h2 := rowB_ok rfl hb
    exact ⟨h1.2, h2.2, h1.1, h2.1, trivial⟩
  · rename_i e1
    simp only [Option.some.injEq, Prod.mk.injEq] at h
    obtain ⟨_, _, rfl⟩ := h
    simp only [List.cons.injEq, and_true] at e1
    obtain ⟨rfl, rfl⟩ := e1
    have h1 := rowB_ok rfl ha
    have h2 := rowB_ok rfl hb
    exact ⟨h1.2, h2.2, h1.1, h2.1, trivial⟩
theorem okDifC (g : Nat) : Ok g 98 fDifC := by
  refine two_ok (okDif rfl rfl g) ?_
  intro a b H r H' c h ha hb hq
  unfold fDif at h
  split at h
  case h_3 => cases h
  · rename_i e1
    simp only [Option.some.injEq, Prod.mk.injEq] at h
    obtain ⟨_, _, rfl⟩ := h
    simp only [List.cons.injEq, and_true] at e1
    obtain ⟨rfl, rfl⟩ := e1
    have h1 := rowB_ok rfl ha
    have h2 := rowB_ok rfl hb
    exact ⟨h1.2, h1.1, h2.1, Nat.le_of_ble_eq_true hq, trivial⟩
  · rename_i e1
    simp only [Option.some.injEq, Prod.mk.injEq] at h
    obtain ⟨_, _, rfl⟩ := h
    simp only [List.cons.injEq, and_true] at e1
    obtain ⟨rfl, rfl⟩ := e1
    have h1 := rowB_ok rfl ha
    have h2 := rowB_ok rfl hb
    exact ⟨h1.2, h1.1, h2.1, Nat.le_of_ble_eq_true hq, trivial⟩
noncomputable def q1 : List (FuncId × Spec) := [(100, fSumC), (98, fDifC), (162, fMulC), (177, runS (env []) Tryd.f177), (99, runS (env []) Tryd.f99)]
theorem q1_ok (g : Nat) : EnvOk (env q1) g :=
  env_cons (okSumC g) (env_cons (okDifC g) (env_cons (okMulC g) (env_cons (runS_ok (env_nil g) Tryd.func177 (by kernel_rfl) (by kernel_rfl)) (env_cons (runS_ok (env_nil g) Tryd.func99 (by kernel_rfl) (by kernel_rfl)) (env_nil g)))))
end Go.Am.Sl
namespace Go.Am.Sl
open Go.Am Go.Proofs
/- THE ORDER OF THE CURVE, AS ref4 MAKES IT -/
def vals1 : Option (Option (List AVal × AHeap) × List Cond) → Option (List AVal × AHeap)
  | some (x, _) => x
  | none => none
def conds1 : Option (Option (List AVal × AHeap) × List Cond) → List Cond
  | some (_, c) => c
  | none => []
theorem goS {g : Nat} {l : List (FuncId × Spec)} (hE : EnvOk (env l) g) {f : FuncId} {fn : Func} (O : Opn) (n : Nat) (path : List Bool) (hf : P.funcs[f]? = some fn) (hn : (fn.name == "runtime.NumGoroutine") = false) (hb : fn.body = some (bodyOf fn))
    {args : List AVal} {H : AHeap} {r : AVal} {H' : AHeap}
    (h1 : vals1 (outF H.length (runF (env l) O [] n fn path args H)).1 = some ([r], H')) (h2 : (outF H.length (runF (env l) O [] n fn path args H)).2.1 = (outF H.length (runF (env l) O [] n fn path args H)).2.2) (hc : openC (conds1 (outF H.length (runF (env l) O [] n fn path args H)).1) = [])
    {L : Nat → Loc} {w : World} (hs : Sim g L H w) (hg : GlobsOk glob g w) (hok : AVal.oks (Th H) args) : CallF P f (AVal.concs L args).toArray w (Back g L H w r H') := by
  refine go hE O n path hf hn hb (cs := conds1 (outF H.length (runF (env l) O [] n fn path args H)).1) (r0 := r) (H0 := H') ?_ h2 (openC_ok (by rw [hc]; trivial)) (Alike.refl _) rfl hs hg hok
  generalize (outF H.length (runF (env l) O [] n fn path args H)).1 = x at h1
  cases x with
  | none => cases h1
  | some y =>
    obtain ⟨a, b⟩ := y
    simp only [vals1] at h1
    subst h1
    rfl
def decS : List UInt8 := [56,57,49,56,56,49,57,49,48,55,53,51,50,53,54,57,48,53,57,55,49,48,55,57,49,48,50,48,53,48,52,49,56,53,57,50,52,55]
noncomputable def decR : Option (List AVal × AHeap) := vals1 (outF 0 (runF (env q1) noO [] 400 Tryd.f101 [] [.str decS] [])).1
end Go.Am.Sl
namespace Go.Am.Sl
open Go.Am Go.Proofs
/- DECIMAL NUMBERS -/
noncomputable def r9 (vf : List Int → Nat → Nat → Nat) (df : Nat → Nat → List Int) : List (FuncId × Spec) := [(100, fSum vf df), (162, fMulN vf df)]
theorem r9_ok {vf : List Int → Nat → Nat → Nat} {df : Nat → Nat → List Int} (hv : vf = vl) (hd : df = digs) (g : Nat) : EnvOk (env (r9 vf df)) g := env_cons (okSum hv hd g) (env_cons (okMulN hv hd g) (env_nil g))
def deX (s : List UInt8) (n : Nat) (xs : List Int) (i : Int) : Sta := ⟨frameOf 23 [(0, .str s), (3, .bsl 0 0 0 n), (4, .int .i64 i)], [.buf 56 .u32 xs]⟩
def chW (s : List UInt8) (i : Nat) : Int := IntKind.wrap .u32 (IntKind.wrap .u8 (((s.getD i 0).toNat : Int) - 48))
theorem deStep (vf : List Int → Nat → Nat → Nat) (df : Nat → Nat → List Int) (hv : vf = vl) (hd : df = digs) (g : Nat) (s : List UInt8) (n i : Nat) (xs : List Int) (hn : n + 1 ≤ 100000) (hi : i < s.length) (hl : i ≤ 100000) (h1 : isN xs 0 n) (h2 : isN (df (n + 1) (vf xs 0 n * vf [10] 0 1)) 0 (n + 1)) (h3 : isN [chW s i] 0 1) :
    RunTo (env (r9 vf df)) g [] 0 (loopOf (theB 0 (bodyOf Tryd.f101))) (deX s n xs i) .normal
      (deX s (Nat.max (n + 1) 1 + 1) (df (Nat.max (n + 1) 1 + 1) (vf (df (n + 1) (vf xs 0 n * vf [10] 0 1)) 0 (n + 1) + vf [chW s i] 0 1)) ((i + 1 : Nat) : Int)) := by
  have hw : IntKind.wrap .i64 ((i : Int) + 1) = ((i + 1 : Nat) : Int) := wrapi (i + 1) (by omega)
  have h10 : isN [10] 0 1 := isNb_ok rfl
  refine goR (r9_ok hv hd g) ⟨[9], [5]⟩ [] 90 [true] [0, 3, 4] (by kernel_rfl) trivial (X := deX s n xs i)
    (Y0 := deX s (Nat.max (n + 1) 1 + 1) (df (Nat.max (n + 1) 1 + 1) (vf (df (n + 1) (vf xs 0 n * vf [10] 0 1)) 0 (n + 1) + vf [chW s i] 0 1)) (IntKind.wrap .i64 ((i : Int) + 1)))
    (cs := [.tt (decide ((i : Int) < (s.length : Nat)) == true), .lt 0 1, .lt 0 1, .le n 100000, .le 1 100000, .prop (isN xs 0 n), .prop (isN [10] 0 1), .ile 0 (i : Nat), .lt i s.length, .ile 0 (i : Nat), .lt i s.length, .lt 0 1, .lt 0 1, .lt 0 1, .lt 0 1, .le (n + 1) 100000, .le 1 100000,
      .prop (isN (df (n + 1) (vf xs 0 n * vf [10] 0 1)) 0 (n + 1)), .prop (isN [chW s i] 0 1)])
    (by kernel_rfl) (by kernel_rfl) ⟨?_, ck rfl, ck rfl, ?_, ck rfl, h1, h10, Int.natCast_nonneg _, hi, Int.natCast_nonneg _, hi, ck rfl, ck rfl, ck rfl, ck rfl, hn, ck rfl, h2, h3, trivial⟩ (by rw [hw])
  · show (decide ((i : Int) < (s.length : Nat)) == true) = true
    simp; omega
  · show n ≤ 100000; omega
end Go.Am.Sl
namespace Go.Am.Sl
open Go.Am Go.Proofs
/- DECIMAL NUMBERS: the loop -/
theorem cut_all (xs : List Int) (n : Nat) (h : xs.length = n) : cut xs 0 n = xs := by
  unfold cut
  rw [List.drop_zero, ← h, List.take_length]
theorem vl_digs (n v : Nat) : vl (digs n v) 0 n = v % 4294967296 ^ n := by
  unfold vl
  rw [cut_all _ _ (digs_len n v), valL_digs]
theorem isN_digs (n v : Nat) : isN (digs n v) 0 n := by
  refine ⟨by rw [digs_len]; omega, ?_⟩
  rw [cut_all _ _ (digs_len n v)]
  exact isD_digs n v
def decV (s : List UInt8) : Nat → Nat
  | 0 => 0
  | i + 1 => decV s i * 10 + ((s.getD i 0).toNat - 48)
def isDec (s : List UInt8) : Prop := s.length ≤ 1000 ∧ ∀ i, i < s.length → 48 ≤ (s.getD i 0).toNat ∧ (s.getD i 0).toNat ≤ 57
theorem decV_lt {s : List UInt8} (h : isDec s) : ∀ i, i ≤ s.length → decV s i < 4294967296 ^ (1 + 2 * i)
  | 0, _ => by simp [decV]
  | i + 1, hi => by
    have ih := decV_lt h i (by omega)
    have := h.2 i (by omega)
    have e : 1 + 2 * (i + 1) = (1 + 2 * i) + 1 + 1 := by omega
    rw [e, Nat.pow_succ, Nat.pow_succ]
    simp only [decV]
    generalize 4294967296 ^ (1 + 2 * i) = R at *
    omega
theorem chW_eq {s : List UInt8} (h : isDec s) {i : Nat} (hi : i < s.length) : chW s i = (((s.getD i 0).toNat - 48 : Nat) : Int) := by
  obtain ⟨h1, h2⟩ := h.2 i hi
  unfold chW
  have e : ((s.getD i 0).toNat : Int) - 48 = (((s.getD i 0).toNat - 48 : Nat) : Int) := by omega
  rw [e, wrap8, wrap32]
  omega
theorem deRound (g : Nat) (s : List UInt8) (h : isDec s) (i : Nat) (hi : i < s.length) :
    RunTo (env (r9 vl digs)) g [] 0 (loopOf (theB 0 (bodyOf Tryd.f101))) (deX s (1 + 2 * i) (digs (1 + 2 * i) (decV s i)) i) .normal
      (deX s (1 + 2 * (i + 1)) (digs (1 + 2 * (i + 1)) (decV s (i + 1))) ((i + 1 : Nat) : Int)) := by
  have hl := h.1
  obtain ⟨h1, h2⟩ := h.2 i hi
  have hd := chW_eq h hi
  have e10 : vl [10] 0 1 = 10 := rfl
  have hN : isN [chW s i] 0 1 := by
    refine ⟨Nat.le_refl _, ?_⟩
    intro x hx
    have hx : x ∈ [chW s i] := hx
    simp only [List.mem_singleton] at hx
    rw [hx, hd]
    omega
  have hv : vl [chW s i] 0 1 = (s.getD i 0).toNat - 48 := by
    show (chW s i).toNat + 4294967296 * 0 = _
    rw [hd]
    omega
  have hlt := decV_lt h i (by omega)
  have main := deStep vl digs rfl rfl g s (1 + 2 * i) i (digs (1 + 2 * i) (decV s i)) (by omega) hi (by omega) (isN_digs _ _) (isN_digs _ _) hN
  have em : Nat.max (1 + 2 * i + 1) 1 + 1 = 1 + 2 * (i + 1) := by
    show max (1 + 2 * i + 1) 1 + 1 = _
    omega
  have hlt2 : decV s i * 10 < 4294967296 ^ (1 + 2 * i + 1) := by
    rw [Nat.pow_succ]
    generalize 4294967296 ^ (1 + 2 * i) = R at *
    omega
  rw [em, vl_digs, vl_digs, e10, hv, Nat.mod_eq_of_lt hlt, Nat.mod_eq_of_lt hlt2] at main
  exact main
theorem deExit (g : Nat) (s : List UInt8) (n : Nat) (xs : List Int) : RunTo (env (r9 vl digs)) g [] 0 (loopOf (theB 0 (bodyOf Tryd.f101))) (deX s n xs (s.length : Nat)) (.exit 0) (deX s n xs (s.length : Nat)) := by
  refine goR (r9_ok rfl rfl g) ⟨[9], []⟩ [] 90 [false] [0, 3, 4] (by kernel_rfl) trivial (X := deX s n xs (s.length : Nat)) (cs := [.tt (decide ((s.length : Int) < (s.length : Nat)) == false)]) (by kernel_rfl) (by kernel_rfl) ⟨?_, trivial⟩ rfl
  show (decide ((s.length : Int) < (s.length : Nat)) == false) = true
  simp
theorem deLoop (g : Nat) (s : List UInt8) (h : isDec s) :
    RunTo (env (r9 vl digs)) g [] 0 (.block 0 (theB 0 (bodyOf Tryd.f101))) (deX s 1 [0] 0) .normal (deX s (1 + 2 * s.length) (digs (1 + 2 * s.length) (decV s s.length)) (s.length : Nat)) := by
  have e : theB 0 (bodyOf Tryd.f101) = .loop (loopOf (theB 0 (bodyOf Tryd.f101))) := by kernel_rfl
  rw [e]
  have key := RunTo.loop (E := env (r9 vl digs)) (g := g) (ds := []) (n0 := 0) (c := loopOf (theB 0 (bodyOf Tryd.f101))) (fun i => i ≤ s.length) (fun i => s.length - i)
    (fun i => deX s (1 + 2 * i) (digs (1 + 2 * i) (decV s i)) (i : Nat)) (fun _ => (.exit 0, deX s (1 + 2 * s.length) (digs (1 + 2 * s.length) (decV s s.length)) (s.length : Nat))) ?_ 0 (Nat.zero_le _)
  · have e0 : digs (1 + 2 * 0) (decV s 0) = [0] := digs_zero 1
    rw [e0] at key
    exact RunTo.block key
  · intro i hi
    rcases Nat.lt_or_ge i s.length with h2 | h2
    · exact .inl ⟨i + 1, by omega, by omega, rfl, deRound g s h i h2⟩
    · have : i = s.length := by omega
      refine .inr ⟨(by intro h; cases h), ?_⟩
      rw [this]
      exact deExit g s _ _
def fDec : Spec := fun args H =>
  match args, H with
  | [.str s], [] => some (.bsl 0 0 0 (1 + 2 * s.length), [.buf 56 .u32 (digs (1 + 2 * s.length) (decV s s.length))], [.prop (isDec s)])
  | _, _ => none
theorem okDec (g : Nat) : Ok g 101 fDec := by
  intro args H r H' c h hc L w hs hg hok
  unfold fDec at h
  split at h
  case h_2 => cases h
  rename_i s
  simp only [Option.some.injEq, Prod.mk.injEq] at h
  obtain ⟨rfl, rfl, rfl⟩ := h
  have hB : sumsOk (env (r9 vl digs)) g [] 0 (bodyOf Tryd.f101) [toldB 0 0 [0, 3, 4] (deX s 1 [0] 0) .normal (deX s (1 + 2 * s.length) (digs (1 + 2 * s.length) (decV s s.length)) (s.length : Nat))] := ⟨toldB_ok (id := 0) (deLoop g s hc.1), trivial⟩
  generalize digs (1 + 2 * s.length) (decV s s.length) = out at *
  exact goB (H := []) (r9_ok rfl rfl g) noO _ 90 [] Tryd.func101 (by kernel_rfl) (by kernel_rfl) (by kernel_rfl) hB (r0 := .bsl 0 0 0 (1 + 2 * s.length)) (H0 := [.buf 56 .u32 out])
    (cs := [.prop (AlikeS (deX s 1 [0] 0) (deX s 1 [0] 0))]) (by kernel_rfl) (by kernel_rfl) ⟨AlikeS.refl _, trivial⟩ (Alike.refl _) rfl hs hg hok
end Go.Am.Sl
namespace Go.Am.Sl
open Go.Am Go.Proofs
/- THE ORDER OF THE CURVE, AS ref4 MAKES IT: closed -/
def isDecB (s : List UInt8) : Bool := Nat.ble s.length 1000 && (List.range s.length).all fun i => Nat.ble 48 (s.getD i 0).toNat && Nat.ble (s.getD i 0).toNat 57
theorem isDecB_ok {s : List UInt8} (h : isDecB s = true) : isDec s := by
  simp only [isDecB, Bool.and_eq_true, List.all_eq_true] at h
  refine ⟨Nat.le_of_ble_eq_true h.1, fun i hi => ?_⟩
  have := h.2 i (List.mem_range.2 hi)
  exact ⟨Nat.le_of_ble_eq_true this.1, Nat.le_of_ble_eq_true this.2⟩
def fDecC : Spec := fun args H =>
  match args, H with
  | [.str s], [] => bif isDecB s then some (.bsl 0 0 0 (1 + 2 * s.length), [.buf 56 .u32 (digs (1 + 2 * s.length) (decV s s.length))], []) else none
  | _, _ => none
theorem okDecC (g : Nat) : Ok g 101 fDecC := by
  intro args H r H' c h hc L w hs hg hok
  unfold fDecC at h
  split at h
  case h_2 => cases h
  rename_i s
  obtain ⟨hb, h⟩ := bif_some h
  simp only [Option.some.injEq, Prod.mk.injEq] at h
  obtain ⟨rfl, rfl, rfl⟩ := h
  exact okDec g [.str s] [] _ _ [.prop (isDec s)] rfl ⟨isDecB_ok hb, trivial⟩ L w hs hg hok
noncomputable def q2 : List (FuncId × Spec) := [(101, fDecC), (102, runS (env [(177, runS (env []) Tryd.f177)]) Tryd.f102)] ++ q1
theorem q2_ok (g : Nat) : EnvOk (env q2) g :=
  env_cons (okDecC g) (env_cons (runS_ok (env_cons (runS_ok (env_nil g) Tryd.func177 (by kernel_rfl) (by kernel_rfl)) (env_nil g)) Tryd.func102 (by kernel_rfl) (by kernel_rfl)) (q1_ok g))
def qL : List Int := [4234356049, 4089039554, 2803342980, 3169254061, 4294967295, 4294967295, 0, 4294967295]
def qB : List Int := [255, 255, 255, 255, 0, 0, 0, 0, 255, 255, 255, 255, 255, 255, 255, 255, 188, 230, 250, 173, 167, 23, 158, 132, 243, 185, 202, 194, 252, 99, 37, 81]
def fMakeQ : Spec := fun args H =>
  match args, H with
  | [.int .i64 k], [] => bif decide (k = 3) then some (.agg [.bsl 0 0 0 8], [.buf 56 .u32 qL], []) else none
  | _, _ => none
theorem okMakeQ (g : Nat) : Ok g 31 fMakeQ := by
  intro args H r H' c h hc L w hs hg hok
  unfold fMakeQ at h
  split at h
  case h_2 => cases h
  rename_i k
  obtain ⟨hk, h⟩ := bif_some h
  have hk := of_decide_eq_true hk
  subst hk
  obtain ⟨rfl, h2⟩ := Prod.mk.inj (Option.some.inj h)
  obtain ⟨rfl, rfl⟩ := Prod.mk.inj h2
  exact goS (q2_ok g) noO 400 [] Tryd.func31 (by kernel_rfl) (by kernel_rfl) (by kernel_rfl) (by kernel_rfl) (by kernel_rfl) hs hg hok
def qS : List UInt8 := qB.map fun x => UInt8.ofNat x.toNat
def fBytesQ : Spec := fun args H =>
  match args, H with
  | [.bsl 0 p off len, .int .i64 n], [.buf t .u32 xs] => bif decide (off = 0) && (decide (len = 8) && (decide (n = 32) && decide (xs = qL))) then some (.str qS, [.buf t .u32 qL], []) else none
  | _, _ => none
theorem okBytesQ (g : Nat) : Ok g 30 fBytesQ := by
  intro args H r H' c h hc L w hs hg hok
  unfold fBytesQ at h
  split at h
  case h_2 => cases h
  rename_i p off len n t xs
  obtain ⟨hk, h⟩ := bif_some h
  simp only [Bool.and_eq_true, decide_eq_true_eq] at hk
  obtain ⟨rfl, rfl, rfl, rfl⟩ := hk
  obtain ⟨rfl, h2⟩ := Prod.mk.inj (Option.some.inj h)
  obtain ⟨rfl, rfl⟩ := Prod.mk.inj h2
  exact goS (env_nil g) noO 400 [] Tryd.func30 (by kernel_rfl) (by kernel_rfl) (by kernel_rfl) (by kernel_rfl) (by kernel_rfl) hs hg hok
end Go.Am.Sl
