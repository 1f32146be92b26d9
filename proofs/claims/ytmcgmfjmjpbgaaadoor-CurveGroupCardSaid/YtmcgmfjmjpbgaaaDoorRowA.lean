/- Part of the proof: RowA. -/
import Derived.Test.YtmcgmfjmjpbgaaaDoorRows
import Derived.MakeChecks
import Derived.ProofKit
import Derived.LaidMore
import Derived.OpenShut
import Derived.Stop.Joined
import Derived.ChangeSame
import Derived.ChangeShapes
import Derived.ChangeMaps5
import Derived.Below
import Derived.Test.YtmcgmfjmjpbgaaaDoorGroupA
set_option linter.unusedVariables false
set_option maxRecDepth 100000
namespace Go.Am.Sl
open Go.Am Go.Proofs
/- WHAT THE LISTED TABLES ARE, CELL BY CELL: numbers, arrays, structs -/
section
variable {K : Type}
/-- the parts of a type: where, how long, of what type -/
def partsOf (P : Program) (t : TypeId) : Option (List (Nat × Nat × TypeId)) :=
  match P.underlying t with
  | some (.struct fs) => some (fs.toList.map fun f => (f.offset, P.cellsOf f.type, f.type))
  | some (.array n e) => some ((List.range n).map fun i => (i * P.cellsOf e, P.cellsOf e, e))
  | _ => none
def contB : Nat → List (Nat × Nat × TypeId) → Nat → Bool
  | o, [], m => Nat.beq o m
  | o, (a, s, _) :: ps, m => Nat.beq a o && contB (o + s) ps m
def flatL (F : TypeId → DataW K → Option (List Value)) : List (Nat × Nat × TypeId) → List (DataW K) → Option (List Value)
  | [], [] => some []
  | (_, _, t) :: ps, d :: ds =>
    match F t d, flatL F ps ds with
    | some a, some b => some (a ++ b)
    | _, _ => none
  | _, _ => none
def flat (P : Program) : Nat → TypeId → DataW K → Option (List Value)
  | 0, _, _ => none
  | f + 1, t, d =>
    match P.underlying t, d with
    | some (.int _), .lit (.int k n) => some [.int k n]
    | some (.struct _), .agg ds | some (.array _ _), .agg ds =>
      match partsOf P t with
      | some ps => bif contB 0 ps (P.cellsOf t) then flatL (flat P f) ps ds else none
      | none => none
    | _, _ => none
theorem flatL_ok {F : TypeId → DataW K → Option (List Value)} {T : TypeId → List Value → Option (DataW K × List MemPlace)} (hF : ∀ t cs d ps l, T t cs = some (d, ps) → F t d = some l → cs = l) (cs : List Value) :
    ∀ (ps : List (Nat × Nat × TypeId)) (o : Nat) (xs : List (DataW K × List MemPlace)) (l : List Value), contB o ps cs.length = true → ps.mapM (fun x => T x.2.2 ((cs.drop x.1).take x.2.1)) = some xs → flatL F ps (xs.map (·.1)) = some l → cs.drop o = l
  | [], o, xs, l, hc, hm, hf => by
    simp only [List.mapM_nil, Option.pure_def, Option.some.injEq] at hm
    subst hm
    simp only [List.map_nil, flatL, Option.some.injEq] at hf
    subst hf
    have := Nat.eq_of_beq_eq_true hc
    exact List.drop_eq_nil_of_le (by omega)
  | (a, s, t) :: ps, o, xs, l, hc, hm, hf => by
    simp only [contB, Bool.and_eq_true] at hc
    have ha := Nat.eq_of_beq_eq_true hc.1
    subst ha
    simp only [List.mapM_cons, Option.bind_eq_bind, Option.bind_eq_some_iff, Option.pure_def, Option.some.injEq] at hm
    obtain ⟨y, hy, ys, hys, rfl⟩ := hm
    simp only [List.map_cons, flatL] at hf
    split at hf
    · rename_i u v hu hv
      simp only [Option.some.injEq] at hf
      subst hf
      have h1 := hF t _ y.1 y.2 u hy hu
      have h2 := flatL_ok hF cs ps (a + s) ys v hc.2 hys hv
      rw [← h1, ← h2, ← List.drop_drop]
      exact (List.take_append_drop s (cs.drop a)).symm
    · cases hf
theorem flat_ok {enc : TypeId × Value → K} {P : Program} {w : World} {base : Nat} {sp : Nat → Bool} {held : Bool} : ∀ (f fuel : Nat) (t : TypeId) (cs : List Value) (d : DataW K) (ps : List MemPlace) (l : List Value),
    DataW.trod enc P w base sp held fuel t cs = some (d, ps) → flat P f t d = some l → cs = l
  | 0, _, _, _, _, _, _, _, h => by cases h
  | f + 1, 0, _, _, _, _, _, h, _ => by simp [DataW.trod] at h
  | f + 1, fuel + 1, t, cs, d, ps, l, h, hf => by
    simp only [flat] at hf
    split at hf
    · rename_i k0 k n hu
      simp only [Option.some.injEq] at hf
      subst hf
      cases cs with
      | nil => simp [DataW.trod, hu] at h
      | cons c cs =>
        cases cs with
        | cons => cases c <;> simp [DataW.trod, hu] at h
        | nil =>
          cases c <;> simp [DataW.trod, hu] at h
          obtain ⟨⟨rfl, _⟩, ⟨rfl, rfl⟩, _⟩ := h
          rfl
    · rename_i fs ds hu
      split at hf
      · rename_i qs hq
        obtain ⟨hb, hf⟩ := bif_some hf
        simp only [partsOf, hu, Option.some.injEq] at hq
        subst hq
        simp only [DataW.trod, hu] at h
        split at h
        · rename_i hl
          simp only [Option.map_eq_some_iff, Prod.mk.injEq, DataW.agg.injEq] at h
          obtain ⟨xs, hm, rfl, _⟩ := h
          rw [← hl] at hb
          have := flatL_ok (T := fun t cs => DataW.trod enc P w base sp held fuel t cs) (fun t cs d ps l => flat_ok f fuel t cs d ps l) cs _ 0 xs l hb (by rw [List.mapM_map]; exact hm) hf
          exact this
        · cases h
      · cases hf
    · rename_i n e ds hu
      split at hf
      · rename_i qs hq
        obtain ⟨hb, hf⟩ := bif_some hf
        simp only [partsOf, hu, Option.some.injEq] at hq
        subst hq
        simp only [DataW.trod, hu] at h
        split at h
        · rename_i hl
          simp only [Option.map_eq_some_iff, Prod.mk.injEq, DataW.agg.injEq] at h
          obtain ⟨xs, hm, rfl, _⟩ := h
          rw [← hl] at hb
          have := flatL_ok (T := fun t cs => DataW.trod enc P w base sp held fuel t cs) (fun t cs d ps l => flat_ok f fuel t cs d ps l) cs _ 0 xs l hb (by rw [List.mapM_map]; exact hm) hf
          exact this
        · cases h
      · cases hf
    · cases hf
end
end Go.Am.Sl
namespace Go.Am.Sl
open Go.Am Go.Proofs Go.Proofs.YtmcgmfjmjpbgaaaDoor
/- THE MODULI, FROM THE ROW'S CONDITION -/
abbrev modL : List (String × DataW Unit) := [("securelink/mont.moduli", Rows.laid_securelink_mont_moduli)]
theorem gMod : P.globalNamed "securelink/mont.moduli" = some 2 := by kernel_rfl
noncomputable def tMod : TypeId := ((P.globals[2]?).map (·.type)).getD 0
theorem tModEq : (P.globals[2]?).map (·.type) = some tMod := by kernel_rfl
theorem flatMod : flat P 8 tMod (Rows.laid_securelink_mont_moduli (H := Unit)) = some (AVal.cells (fun _ => default) moduliV) := by kernel_rfl
theorem globs_of_laid {W : World} (h : laidMetH P modL W) : GlobsOk glob W.heap.size W := by
  rw [MakeChecks.laidMetH_plain _ _ _ (by kernel_rfl)] at h
  obtain ⟨ps, ⟨g, t, cs, fuel, p, q, hg, ht, hv, hd, _, _⟩, _⟩ := h
  obtain rfl := Option.some.inj (gMod.symm.trans hg)
  obtain rfl := Option.some.inj (tModEq.symm.trans ht)
  have hcs := flat_ok 8 fuel _ _ _ _ _ hd flatMod
  have hheap : ∃ ty fr, W.heap[2]? = some (.cells cs ty fr) := by
    unfold World.var? at hv
    rw [gMod] at hv
    simp only [Option.bind_some] at hv
    split at hv
    · rename_i c ty fr hh
      simp only [Option.some.injEq] at hv
      subst hv
      exact ⟨ty, fr, hh⟩
    · cases hv
  obtain ⟨ty, fr, hh⟩ := hheap
  intro i v hi
  match i, hi with
  | 0, hi => cases hi
  | 1, hi => cases hi
  | 2, hi =>
    have hi : some (some moduliV) = some (some v) := hi
    simp only [Option.some.injEq] at hi
    subst hi
    refine ⟨(Array.getElem?_eq_some_iff.1 hh).1, ⟨trivial, trivial, trivial, trivial, trivial⟩, ty, fr, ?_⟩
    rw [hh, ← hcs]
  | i + 3, hi => cases hi
end Go.Am.Sl
namespace Go.Am.Sl
open Go.Am Go.Proofs Go.Proofs.YtmcgmfjmjpbgaaaDoor Go.ChangeShapes Go.WideShapes Go.ChangeAt Go.RowKit
/- ROWS OF LAWS OVER TEXTS -/
theorem own : ownKnob Tryd.prog.godebug = none := by kernel_rfl
theorem sim_nil {g : Nat} {L : Nat → Loc} {w : World} (h : g ≤ w.heap.size) : Sim g L [] w :=
  ⟨fun b c hb => by simp at hb, fun b c hb => by simp at hb, fun b b' c c' hb => by simp at hb, fun b c hb => by simp at hb, h⟩
theorem below_of {g : Nat} {L L' : Nat → Loc} {H' : AHeap} {w w' : World} (h : Step g L [] w L' H' w') : Below w.heap.size w w' :=
  ⟨h.kept.os, h.kept.tape, h.kept.output, h.kept.size, fun k hk => h.kept.block k hk fun b c hb => by simp at hb⟩
/-- a function that is called with nothing in memory of ours, from its spec -/
theorem calls_of {f : FuncId} {fn : Func} {args : List AVal} {H' : AHeap} (hf : P.funcs[f]? = some fn) (hn : (fn.name == "runtime.NumGoroutine") = false) (hb : fn.body = some (bodyOf fn)) {w : World}
    (h : CallF P f (AVal.concs (fun _ => default) args).toArray w (Back w.heap.size (fun _ => default) [] w (.bool true) H')) :
    Calls Tryd.prog f (AVal.concs (fun _ => default) args).toArray w fun e w' => e = .returned (.bool true) ∧ Below w.heap.size w w' := by
  have hcall : (callFunc f (AVal.concs (fun _ => default) args).toArray).run P w = .ok (.enter f (AVal.concs (fun _ => default) args).toArray) w := by
    unfold callFunc
    have hp : (program : Sem Program).run P w = .ok P w := rfl
    rw [Sem.run_bind, hp, Result.andThen_ok]
    simp only [hf, hn, hb, Option.isNone_some, Bool.false_eq_true, if_false]
    rfl
  unfold CallF at h
  rw [hcall] at h
  refine h.mono fun e w' hh => ?_
  obtain ⟨L', rfl, k, _⟩ := hh
  exact ⟨rfl, below_of k⟩
theorem ba_eq (s : ByteArray) : (⟨s.data.toList.toArray⟩ : ByteArray) = s := by
  cases s
  simp
end Go.Am.Sl
