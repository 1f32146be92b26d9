/- For all texts a, b and c: the law CurveGroup answers true (sums of points of curve 25519 that come of numbers do not hang on order or brackets; nothing changes nothing; one more than n times is n times and one), on the condition that the listed moduli are laid as the program's text lays them.
-/
import Derived.Test.YtmcgmfjmjpbgaaaDoorRowA
import Derived.Test.YtmcgmfjmjpbgaaaDoorCurveB
import Derived.Test.YtmcgmfjmjpbgaaaDoorTie
import Derived.Test.YtmcgmfjmjpbgaaaDoorCards
import Derived.SevenTiedAt
set_option linter.unusedVariables false
set_option maxRecDepth 100000
namespace Go.Proofs.YtmcgmfjmjpbgaaaDoor.curveGroup
open Go.Am Go.Am.Sl Go.ChangeShapes Go.WideShapes Go.ChangeAt Go.RowKit
open Go.ChangeMaps (open_string shut_string)
theorem door_met (os : Os) (args : Array Value) : laidMetH Tryd.prog modL ((World.doorLaid Tryd.prog 141 os).forCall (fun _ _ => 0) ⟨#[], args, []⟩).memory :=
  laidMetH_of_parts3 (fuel := 8) (laidMet_of_run' 8 (by kernel_rfl) (by kernel_rfl)) (by kernel_rfl) (by kernel_rfl)
theorem lifted (os : Os) (started : os.Started) (H : Type) (enc : TypeId × Value → H) :
    ReturnsInHanded {} Tryd.checked os 7 .any (fun w args => (Rows.curveGroupSpec.pre enc Tryd.prog Tryd.f7 [] false w args ∧ laidMetH Tryd.prog modL w) ∧ sizedMet enc Tryd.prog Tryd.f7 (OpenSpec.ofChange Rows.curveGroupSpec) false w args)
      (Rows.curveGroupSpec.post enc Tryd.prog Tryd.f7 false true false false) := by
  refine returnsInHanded_of_change_and (C := Tryd.checked) (X := fun w _ => laidMetH Tryd.prog modL w) (fun _ _ _ hh h => h.of_heap hh) own started (by kernel_rfl) Tryd.func7
    (ChangeSpec.witness_shaped (enc := enc) (C := Tryd.checked) (os := os) (X := fun w _ => laidMetH Tryd.prog modL w) false (World.doorLaid Tryd.prog 141 os) #[.string ByteArray.empty, .string ByteArray.empty, .string ByteArray.empty] 8 rfl (World.shaped_of_RefB (by kernel_rfl) (by kernel_rfl)) (by kernel_rfl) (by kernel_rfl) (by kernel_rfl) (door_met os _)) ?_
  intro W base args ds gs before hval0 hW _ hsz0 hL _
  have hval : ∀ (j : Nat) t v, Tryd.f7.params[j]? = some t → args[j]? = some v → Value.okWide Tryd.prog W .any base t v := hval0
  have hW' := hW
  obtain ⟨p, q, hA0, hV, rfl, hfz, hnd⟩ := hW
  have hA : DataW.TrodAll enc Tryd.prog W 0 (fun _ => true) true Tryd.f7.params.toList args.toList ds p := hA0
  rw [Tryd.params7] at hA hval
  obtain ⟨v0, vs0, d0, ds0, p0, q0, hargs, rfl, rfl, h0, r0⟩ := trodAll_cons hA
  obtain ⟨v1, vs1, d1, ds1, p1, q1, rfl, rfl, rfl, h1, r1⟩ := trodAll_cons r0
  obtain ⟨v2, vs2, d2, ds2, p2, q2, rfl, rfl, rfl, h2, r2⟩ := trodAll_cons r1
  obtain ⟨rfl, rfl, rfl⟩ := trodAll_nil r2
  obtain rfl : args = #[v0, v1, v2] := by cases args; simp_all
  obtain ⟨rfl, rfl⟩ := trodVars_none hV
  obtain ⟨a0, rfl, rfl, rfl, y0⟩ := open_string Tryd.underlying9 (hval 0 9 v0 rfl rfl) h0
  obtain ⟨a1, rfl, rfl, rfl, y1⟩ := open_string Tryd.underlying9 (hval 1 9 v1 rfl rfl) h1
  obtain ⟨a2, rfl, rfl, rfl, y2⟩ := open_string Tryd.underlying9 (hval 2 9 v2 rfl rfl) h2
  clear hA0 hval0 hsz0
  have hc := okLaw7 W.heap.size [.str a0.data.toList, .str a1.data.toList, .str a2.data.toList] [] _ _ _ rfl trivial (fun _ => default) W (sim_nil (Nat.le_refl _)) (globs_of_laid hL) (by simp only [AVal.oks, AVal.ok]; simp)
  have hw := calls_of Tryd.func7 (by kernel_rfl) (by kernel_rfl) hc
  simp only [AVal.concs, AVal.conc, ba_eq] at hw
  refine hw.mono fun e W' ⟨he, bel⟩ => ?_
  subst he
  exact ⟨_, rfl, _, _, _, [], _, [], hW', trodAll_mk1 (shut_bool Tryd.underlying4 _), (trodAll_cons_mk (shut_string Tryd.underlying9 y0) (trodAll_cons_mk (shut_string Tryd.underlying9 y1) (trodAll_cons_mk (shut_string Tryd.underlying9 y2) trodAll_mk0))), rfl, bel.frame _, fun h => by cases h⟩
theorem rNamed : Tryd.prog.funcNamed "securelink/securelinklaw5.CurveGroup" = some 7 := by kernel_rfl
theorem rClosed : joinedFacts Tryd.prog 7 Tryd.f7 Rows.curveGroupSpec Rows.curveGroupRow = true := by kernel_rfl
theorem rInst : Tryd.f7.isInstance Tryd.prog Rows.curveGroupRow.origin Rows.curveGroupRow.targs := of_decide_eq_true (by kernel_rfl)
theorem rWrap : Tryd.f7.isWrapper Tryd.prog Rows.curveGroupRow.wrapper Rows.curveGroupRow.mainSum := by unfold Func.isWrapper; first | (rw [if_pos (by decide +kernel)]; kernel_rfl) | (rw [if_neg (by decide +kernel)]; exact ⟨rfl, rfl⟩)
theorem row : Rows.CurveGroupSaid :=
  OpenClaim.holds_of_wide 7 Tryd.f7 rfl rfl rfl rfl rfl rfl rfl ⟨rfl, rfl, rfl, rfl, rfl⟩ rfl rfl rfl rfl rfl rNamed Tryd.func7 rClosed rInst rWrap
    (fun os started H enc _ => lifted os started H enc)
end Go.Proofs.YtmcgmfjmjpbgaaaDoor.curveGroup
namespace Go.Proofs.YtmcgmfjmjpbgaaaDoor
/- THE CARD'S CLOSED FACTS -/
theorem curveGroup.cWf : Rows.curveGroupRow.wfByText (OpenSpec.ofChange Rows.curveGroupSpec) = true := by kernel_rfl
theorem curveGroup.cMain : Tryd.pinned.checked.prog.mainIs = some (true, "6504893f73ceec7ba8e08d7f9433200f5f11311340a82f79925004490da20d3c".toList) := by kernel_rfl
theorem curveGroup.cLooks : true = Tryd.pinned.checked.prog.looks [] := by kernel_rfl
theorem curveGroup.cStand : ([9, 9, 9].all fun u => !Tryd.prog.wantsStandIn u) = true := by kernel_rfl
theorem curveGroup.cGoes : false = Rows.curveGroupRow.goesBy Tryd.pinned.checked.prog := by kernel_rfl
/-- THE TIED CARD -/
theorem curveGroup_holds : Rows.CurveGroupCardSaid :=
  Claim7.holds_tied_plain_at .later [] [.data] true (true, "6504893f73ceec7ba8e08d7f9433200f5f11311340a82f79925004490da20d3c") true
    curveGroup.row (fun _ h => by cases h) curveGroup.cWf (fun _ h => by cases h) curveGroup_row_tie rfl ⟨rfl, rfl⟩ curveGroup.cMain rfl
    (fun f fn hf hfn => by
      obtain rfl : f = 7 := Option.some.inj (curveGroup.rNamed.symm.trans hf) |>.symm
      obtain rfl : fn = Tryd.f7 := (Option.some.inj (Tryd.func7.symm.trans hfn)).symm
      exact ⟨curveGroup.cLooks, fun j t ht => by
        have ht' : (#[9, 9, 9] : Array TypeId)[j]? = some t := by rw [← Tryd.params7]; exact ht
        have hm : t ∈ [9, 9, 9] := by simpa using Array.mem_of_getElem? ht'
        exact (show Tryd.prog.wantsStandIn t = false by simpa using List.all_eq_true.1 curveGroup.cStand t hm)⟩)
    curveGroup.cGoes
end Go.Proofs.YtmcgmfjmjpbgaaaDoor
