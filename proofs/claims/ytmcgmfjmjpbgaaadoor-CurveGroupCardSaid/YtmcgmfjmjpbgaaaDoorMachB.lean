/- Part of the proof: MachB. -/
import Derived.Laws.BytesString
import Derived.Laws.StructEq
import Derived.Test.YtmcgmfjmjpbgaaaDoorMachA
set_option linter.unusedVariables false
set_option linter.unusedSectionVars false
/- AN ABSTRACT MACHINE. Part 9: new slices, texts and bytes. -/
namespace Go.Am
theorem cellsL_replicate (L : Nat → Loc) (z : AVal) : ∀ (n j : Nat), j < n * z.size → (AVal.cellsL L (List.replicate n z))[j]? = (AVal.cells L z)[j % z.size]?
  | 0, j, h => by simp at h
  | n + 1, j, h => by
    simp only [List.replicate_succ, AVal.cellsL]
    have hl := AVal.cells_length L z
    rcases Nat.lt_or_ge j z.size with hlt | hge
    · rw [List.getElem?_append_left (by omega), Nat.mod_eq_of_lt hlt]
    · rw [List.getElem?_append_right (by omega), hl, cellsL_replicate L z n (j - z.size) (by rw [Nat.add_mul] at h; omega), Nat.mod_eq_sub_mod hge]
theorem sizes_replicate (z : AVal) : ∀ n : Nat, AVal.sizes (List.replicate n z) = n * z.size
  | 0 => by simp [AVal.sizes]
  | n + 1 => by simp only [List.replicate_succ, AVal.sizes, sizes_replicate z n]; rw [Nat.add_mul]; omega
theorem zeros_row (L : Nat → Loc) (z : AVal) (n : Nat) (hz : 0 < z.size) :
    (Array.range (n * z.size)).map (fun i => (AVal.cells L z).toArray[i % (AVal.cells L z).toArray.size]!) = (AVal.cellsL L (List.replicate n z)).toArray := by
  have hl := AVal.cells_length L z
  apply Array.ext'
  apply List.ext_getElem
  · rw [Array.length_toList]; simp [AVal.cellsL_length, sizes_replicate]
  · intro j h1 h2
    have hj : j < n * z.size := by simpa using h1
    have e := cellsL_replicate L z n j hj
    have hm : j % z.size < (AVal.cells L z).length := by rw [hl]; exact Nat.mod_lt _ hz
    rw [List.getElem?_eq_getElem hm] at e
    rw [List.getElem?_eq_getElem (by simpa using h2)] at e
    simp only [Option.some.injEq] at e
    simp [hl, e, List.getElem?_eq_getElem hm]
theorem ints_zero (k : IntKind) (n : Nat) (L : Nat → Loc) : ints k n (List.replicate n 0) = AVal.cellsL L (List.replicate n (.int k 0)) := by
  apply List.ext_getElem
  · rw [ints_length, AVal.cellsL_length, sizes_replicate]; simp [AVal.size]
  · intro j h1 h2
    have hj : j < n := by simpa [ints_length] using h1
    have e := cellsL_replicate L (.int k 0) n j (by simpa [AVal.size] using hj)
    rw [List.getElem?_eq_getElem h2] at e
    simp [AVal.cells, AVal.size, Nat.mod_one] at e
    simp [ints, e, hj]

/- A SLICE THAT IS WRITTEN DOWN -/
theorem ints_nums (k : IntKind) (n : Nat) (xs : List Int) (h : xs.length = n) : ints k n xs = nums k xs := by
  subst h
  apply List.ext_getElem
  · simp [ints, nums]
  · intro j h1 h2
    have hj : j < xs.length := by simpa [ints] using h1
    simp [ints, nums, hj]
def kindOf (P : Program) (t : TypeId) : Option IntKind :=
  match P.underlying t with
  | some (.int k) => some k
  | _ => none
def buildSliceA (P : Program) (H : AHeap) (t : TypeId) (len : Nat) (parts : List (Nat × AVal)) : Option (AVal × AHeap × List Cond) :=
  match P.underlying t with
  | some (.slice e) =>
    match zeroA P e with
    | some (.int k z) =>
      bif decide (z = 0) && Nat.ble len 65536 then
        match fillA (fun i => some (i * 1, 1)) (.arr k len (List.replicate len 0)) parts with
        | some (.arr k' n xs, c) => bif Nat.beq n len && Nat.beq xs.length len then some (.bsl H.length 0 0 len, H ++ [.buf e k' xs], c) else none
        | _ => none
      else none
    | some z =>
      bif Nat.ble (len * z.size) 65536 && Nat.ble 1 z.size then
        match fillA (fun i => some (i * z.size, z.size)) (.agg (List.replicate len z)) parts with
        | some (r, c) => some (.slice (some (H.length, 0)) len len, H ++ [.obj e r], c)
        | none => none
      else none
    | none => none
  | _ => none
theorem oks_replicate (n : Nat → Prop) {z : AVal} (hz : AVal.ok n z) : ∀ m, AVal.oks n (List.replicate m z)
  | 0 => trivial
  | m + 1 => ⟨hz, oks_replicate n hz m⟩
theorem buildSlice_run {P : Program} {t e : TypeId} (hu : P.underlying t = some (.slice e)) {z : AVal} (Z : ZeroOk P e z) (hz0 : 0 < z.size) {len : Nat} (hlen : len * z.size ≤ 65536) (L : Nat → Loc) {parts : List (Nat × Value)} {cells : Array Value}
    (hf : Instr.fill (fun i => some (i * z.size, z.size)) (AVal.cellsL L (List.replicate len z)).toArray parts = some cells) (w : World) :
    (Instr.buildSlice t len parts.toArray).run P w = .ok (.slice (some ⟨w.heap.size, 0, none⟩) len len) (w.alloc (.cells cells e)) := by
  obtain ⟨it, hit, hsz⟩ := Z.size
  unfold Instr.buildSlice
  refine run_bindq (run_underlying hu w) ?_
  refine run_bindq (run_sizeOf hit w) ?_
  rw [hsz, if_neg (by omega)]
  have fin : ∀ zero : Array Value, (Array.range (len * z.size)).map (fun i => zero[i % zero.size]!) = (AVal.cellsL L (List.replicate len z)).toArray →
      ((do let some cells := Instr.fill (fun i => some (i * z.size, z.size)) ((Array.range (len * z.size)).map (zero[· % zero.size]!)) parts.toArray.toList
            | stuck "buildSlice: a part of the wrong size"
           pure (.slice (some (← newRow e cells)) len len) : Sem Value)).run P w = .ok (.slice (some ⟨w.heap.size, 0, none⟩) len len) (w.alloc (.cells cells e)) := by
    intro zero h0
    rw [h0]
    simp only [hf]
    simp only [Sem.run_bind, newRow_run, Result.andThen_ok, Sem.run_pure]
  by_cases h0 : len * z.size = 0
  · simp only [if_pos h0]
    refine run_bindq (v := #[]) rfl ?_
    refine fin #[] ?_
    have hl0 : len = 0 := by
      rcases Nat.mul_eq_zero.1 h0 with h | h
      · exact h
      · omega
    subst hl0
    simp [AVal.cellsL]
  · simp only [if_neg h0]
    refine run_bindq (Z.run L w) ?_
    refine run_bindq (v := (AVal.cells L z).toArray) (by rw [AVal.cells_conc]; rfl) ?_
    exact fin _ (zeros_row L z len hz0)
theorem buildSliceA_ok {g : Nat} {P : Program} {L : Nat → Loc} {H H' : AHeap} {w : World} (hs : Sim g L H w) {t : TypeId} {len : Nat} {parts : List (Nat × AVal)} {v : AVal} {c : List Cond} (h : buildSliceA P H t len parts = some (v, H', c)) (hc : All c)
    (hp : ∀ p ∈ parts, AVal.ok (Th H) p.2) : MemOk g P L H w (Instr.buildSlice t len (parts.map fun p => (p.1, AVal.conc L p.2)).toArray) v H' := by
  unfold buildSliceA at h
  split at h
  · rename_i e hu
    split at h
    · rename_i k z hz
      have Z := zeroA_ok hz
      cases hb : (decide (z = 0) && Nat.ble len 65536) with
      | false => simp [hb] at h
      | true =>
        simp only [hb, cond_true] at h
        simp only [Bool.and_eq_true] at hb
        obtain rfl := of_decide_eq_true hb.1
        have hlen := Nat.le_of_ble_eq_true hb.2
        split at h
        · rename_i k' n xs c' hf
          cases hb2 : (Nat.beq n len && Nat.beq xs.length len) with
          | false => simp [hb2] at h
          | true =>
            simp only [hb2, cond_true, Option.some.injEq, Prod.mk.injEq] at h
            obtain ⟨rfl, rfl, rfl⟩ := h
            simp only [Bool.and_eq_true] at hb2
            obtain rfl := Nat.eq_of_beq_eq_true hb2.1
            have hx := Nat.eq_of_beq_eq_true hb2.2
            have F := fillA_ok L (Th H) parts _ _ _ (show AVal.ok (Th H) (.arr k n (List.replicate n 0)) from trivial) hp hf hc
            have F1 := F.1
            simp only [AVal.cells] at F1
            rw [ints_zero k n L, ints_nums k' n xs hx] at F1
            have hrun := buildSlice_run hu Z (by simp [AVal.size]) (len := n) (by simpa [AVal.size] using hlen) L (by simpa [AVal.size] using F1) w
            refine ⟨_, _, ?_, Step.row hs e k' xs [] n (by omega) (by simp; omega), ⟨Th.new rfl, Nat.le_refl _⟩⟩
            rw [List.append_nil, hrun]
            simp [AVal.conc, Lnew_new]
        · cases h
    · rename_i z hne hz
      have Z := zeroA_ok hz
      cases hb : (Nat.ble (len * z.size) 65536 && Nat.ble 1 z.size) with
      | false => simp [hb] at h
      | true =>
        simp only [hb, cond_true] at h
        simp only [Bool.and_eq_true] at hb
        have hlen := Nat.le_of_ble_eq_true hb.1
        have h1 := Nat.le_of_ble_eq_true hb.2
        split at h
        · rename_i r c' hf
          simp only [Option.some.injEq, Prod.mk.injEq] at h
          obtain ⟨rfl, rfl, rfl⟩ := h
          have F := fillA_ok L (Th H) parts _ _ _ (show AVal.ok (Th H) (.agg (List.replicate len z)) from oks_replicate _ (AVal.shut_ok z Z.shut) len) hp hf hc
          have F1 := F.1
          simp only [AVal.cells] at F1
          have hrun := buildSlice_run hu Z h1 hlen L F1 w
          refine ⟨_, _, ?_, Step.obj hs e r F.2.2.2 0, Th.new rfl⟩
          rw [hrun]
          simp [AVal.conc, Lnew_new]
        · cases h
    · cases h
  · cases h

/- A SLICE OF ZEROS -/
def makeSliceA (P : Program) (H : AHeap) (t : TypeId) (len cap : AVal) : Option (AVal × AHeap × List Cond) :=
  match P.underlying t, len, cap with
  | some (.slice e), .int _ l, .int _ c =>
    match zeroA P e, P.info? e with
    | some (.int k z), some ti => bif decide (z = 0) && Nat.ble ti.bytes 8 then some (.bsl H.length 0 0 l.toNat, H ++ [.buf e k (List.replicate c.toNat 0)], [.ile 0 l, .ile l c, .ile c 1099511627776]) else none
    | _, _ => none
  | _, _, _ => none
theorem wrap_small {n : Int} (h0 : 0 ≤ n) (h1 : n ≤ 1099511627776) : IntKind.i64.wrap n = n := by
  simp only [IntKind.wrap, IntKind.signed, IntKind.bits]
  first
    | omega
    | (simp; omega)
theorem makeSliceA_ok {g : Nat} {P : Program} {L : Nat → Loc} {H H' : AHeap} {w : World} (hs : Sim g L H w) {t : TypeId} {len cap v : AVal} {c : List Cond} (h : makeSliceA P H t len cap = some (v, H', c)) (hc : All c) :
    MemOk g P L H w (Instr.makeSlice t (AVal.conc L len) (AVal.conc L cap)) v H' := by
  unfold makeSliceA at h
  split at h
  · rename_i e kl l kc cp hu
    split at h
    · rename_i k z ti hz hi
      have Z := zeroA_ok hz
      cases hb : (decide (z = 0) && Nat.ble ti.bytes 8) with
      | false => simp [hb] at h
      | true =>
        simp only [hb, cond_true, Option.some.injEq, Prod.mk.injEq] at h
        obtain ⟨rfl, rfl, rfl⟩ := h
        simp only [Bool.and_eq_true] at hb
        obtain rfl := of_decide_eq_true hb.1
        have hby := Nat.le_of_ble_eq_true hb.2
        have h0 : (0 : Int) ≤ l := hc.1
        have h1 : l ≤ cp := hc.2.1
        have h2 : cp ≤ (1099511627776 : Int) := hc.2.2.1
        obtain ⟨it, hit, hsz⟩ := Z.size
        have hit' : it = ti := by rw [hi] at hit; exact (Option.some.inj hit).symm
        subst hit'
        have e1 : it.size = 1 := by rw [hsz]; rfl
        refine ⟨_, _, ?_, Step.row hs e k (List.replicate cp.toNat 0) [] cp.toNat (by simp) (by simp), ⟨Th.new rfl, Nat.le_refl _⟩⟩
        unfold Instr.makeSlice
        refine run_bindq (run_underlying hu w) ?_
        refine run_bindq (v := l) rfl ?_
        refine run_bindq (v := cp) rfl ?_
        refine run_bindq (v := it) (by simp [typeInfo, hi]) ?_
        have wl : IntKind.i64.wrap l = l := wrap_small h0 (by omega)
        have wc : IntKind.i64.wrap cp = cp := wrap_small (by omega) h2
        have hmul : (it.bytes : Int) * cp ≤ 8 * 1099511627776 := by
          have a1 : (it.bytes : Int) * cp ≤ 8 * cp := Int.mul_le_mul_of_nonneg_right (by omega) (by omega)
          omega
        have hbig : (2 : Int) ^ 48 = 281474976710656 := by decide
        simp only [wl, wc]
        rw [if_neg (by simp only [Bool.or_eq_true, decide_eq_true_eq, hbig]; omega)]
        refine run_bindq (run_askRoom _ _ _) ?_
        refine run_bindq (run_sizeOf hi w) ?_
        rw [e1, Nat.mul_one]
        have hrow : ∀ zero : Array Value, (Array.range cp.toNat).map (fun i => zero[i % zero.size]!) = (nums k (List.replicate cp.toNat 0)).toArray →
            ((do let a ← newRow e ((Array.range cp.toNat).map (zero[· % zero.size]!)); pure (.slice (some a) l.toNat cp.toNat) : Sem Value)).run P w = .ok (AVal.conc (Lnew L H.length ⟨w.heap.size, 0, cp.toNat, false⟩) (.bsl H.length 0 0 l.toNat)) (w.alloc (.cells (nums k (List.replicate cp.toNat 0) ++ []).toArray e)) := by
          intro zero hz0
          rw [hz0]
          simp only [Sem.run_bind, newRow_run, Result.andThen_ok, Sem.run_pure, List.append_nil, AVal.conc, Lnew_new, ite_self, Nat.add_zero, Nat.sub_zero, cond_false]
        by_cases hz0 : cp.toNat = 0
        · rw [if_pos hz0]
          refine run_bindq (v := #[]) rfl ?_
          refine hrow #[] ?_
          rw [hz0]
          simp [nums]
        · rw [if_neg hz0]
          refine run_bindq (Z.run L w) ?_
          refine run_bindq (v := (AVal.cells L (.int k 0)).toArray) (by rw [AVal.cells_conc]; rfl) ?_
          · refine hrow _ ?_
            have := zeros_row L (.int k 0) cp.toNat (by simp [AVal.size])
            simp only [AVal.size, Nat.mul_one] at this
            rw [this, ← ints_zero, ints_nums k _ _ (by simp)]
    · cases h
  · cases h
end Go.Am
/- AN ABSTRACT MACHINE. Part 10: rows of numbers: texts and bytes, append, copy. -/
namespace Go.Am
/- MORE STEPS -/
theorem lv_gone (l : Loc) : lv l .gone = false := rfl
/-- a block is no longer spoken of -/
theorem Step.drop {g : Nat} {L : Nat → Loc} {H : AHeap} {w : World} (h : Sim g L H w) {b : Nat} (hlt : b < H.length) : Step g L H w L (H.set b .gone) w := by
  refine ⟨fun _ _ => rfl, ⟨?_, ?_, ?_, ?_, h.gl⟩, by simp, fun b hb => hb.set rfl, Kept.refl _ _ _, ?_⟩
  · intro x y hx
    rcases set_part hlt hx with ⟨rfl, rfl⟩ | ⟨_, hx⟩
    · trivial
    · exact h.blk x y hx
  · intro x y hx
    rcases set_part hlt hx with ⟨rfl, rfl⟩ | ⟨_, hx⟩
    · trivial
    · exact ABlk.ok_mono (fun b hb => hb.set rfl) (h.ok x y hx)
  · intro x x' y y' hx hx' hv hv' he
    rcases set_part hlt hx with ⟨rfl, rfl⟩ | ⟨_, hx⟩
    · cases hv
    · rcases set_part hlt hx' with ⟨rfl, rfl⟩ | ⟨_, hx'⟩
      · cases hv'
      · exact h.inj x x' y y' hx hx' hv hv' he
  · intro x y hx hv
    rcases set_part hlt hx with ⟨rfl, rfl⟩ | ⟨_, hx⟩
    · cases hv
    · exact h.above x y hx hv
  · intro x y hx hv
    rcases set_part hlt hx with ⟨rfl, rfl⟩ | ⟨_, hx⟩
    · cases hv
    · exact .inr ⟨x, y, hx, hv, rfl⟩
/-- a row that is nothing -/
theorem Step.none {g : Nat} {L : Nat → Loc} {H : AHeap} {w : World} (h : Sim g L H w) (t : TypeId) (k : IntKind) : Step g L H w (Lnew L H.length ⟨0, 0, 0, true⟩) (H ++ [.buf t k []]) w := by
  have hst : ∀ b, b < H.length → Lnew L H.length ⟨0, 0, 0, true⟩ b = L b := fun b hb => Lnew_old hb
  have hst' : ∀ b, Th H b → Lnew L H.length ⟨0, 0, 0, true⟩ b = L b := fun b hb => hst b hb.lt
  have hno : ∀ (y : ABlk), lv (Lnew L H.length ⟨0, 0, 0, true⟩ H.length) y = true → False := by
    intro y hy
    rw [Lnew_new] at hy
    have := lv_nil hy
    cases this
  refine ⟨hst', ⟨?_, ?_, ?_, ?_, h.gl⟩, by simp, fun b hb => hb.app, Kept.refl _ _ _, ?_⟩
  · intro x y hx
    rcases app_part hx with ⟨hlt, hx⟩ | ⟨rfl, rfl⟩
    · rw [hst x hlt]
      exact (h.blk x y hx).stays hst' (h.ok x y hx)
    · rw [Lnew_new]
      exact .inl ⟨rfl, rfl, rfl⟩
  · intro x y hx
    rcases app_part hx with ⟨hlt, hx⟩ | ⟨rfl, rfl⟩
    · exact ABlk.ok_mono (fun b hb => hb.app) (h.ok x y hx)
    · trivial
  · intro x x' y y' hx hx' hv hv' he
    rcases app_part hx with ⟨hlt, hx⟩ | ⟨rfl, rfl⟩
    · rcases app_part hx' with ⟨hlt', hx'⟩ | ⟨rfl, rfl⟩
      · rw [hst x hlt] at hv he
        rw [hst x' hlt'] at hv' he
        exact h.inj x x' y y' hx hx' hv hv' he
      · exact (hno _ hv').elim
    · exact (hno _ hv).elim
  · intro x y hx hv
    rcases app_part hx with ⟨hlt, hx⟩ | ⟨rfl, rfl⟩
    · rw [hst x hlt] at hv ⊢
      exact h.above x y hx hv
    · exact (hno _ hv).elim
  · intro x y hx hv
    rcases app_part hx with ⟨hlt, hx⟩ | ⟨rfl, rfl⟩
    · rw [hst x hlt] at hv ⊢
      exact .inr ⟨x, y, hx, hv, rfl⟩
    · exact (hno _ hv).elim
/-- a block is written and gets a new number -/
theorem Step.move {g : Nat} {L : Nat → Loc} {H : AHeap} {w w' : World} (h : Sim g L H w) {b : Nat} {c c' : ABlk} (hb : H[b]? = some c) (hc : lv (L b) c = true) (hok : c'.ok (Th H)) (hm : c'.made = true) (l : Loc) (hl : l.blk = (L b).blk)
    (hw : Holds L w' l c') (hos : w'.os = w.os) (htape : w'.tape = w.tape) (hout : w'.output = w.output) (hsz : w'.heap.size = w.heap.size) (hk : ∀ k, k ≠ (L b).blk → w'.heap[k]? = w.heap[k]?) :
    Step g L H w (Lnew L H.length l) (H.set b .gone ++ [c']) w' := by
  have hlt := (List.getElem?_eq_some_iff.1 hb).1
  have hle : (H.set b .gone).length = H.length := by simp
  have hst : ∀ x, x < H.length → Lnew L H.length l x = L x := fun x hx => Lnew_old hx
  have hst' : ∀ b, Th H b → Lnew L H.length l b = L b := fun b hb => hst b hb.lt
  have hth : ∀ x, Th H x → Th (H.set b .gone ++ [c']) x := fun x hx => (hx.set rfl).app
  have part : ∀ x y, (H.set b .gone ++ [c'])[x]? = some y → (x = H.length ∧ y = c') ∨ (y = .gone) ∨ (x ≠ b ∧ x < H.length ∧ H[x]? = some y) := by
    intro x y hx
    rcases app_part hx with ⟨h1, h2⟩ | ⟨h1, h2⟩
    · rcases set_part hlt h2 with ⟨_, h3⟩ | ⟨h3, h4⟩
      · exact .inr (.inl h3)
      · exact .inr (.inr ⟨h3, by omega, h4⟩)
    · exact .inl ⟨by omega, h2⟩
  have hno : ∀ x y, x ≠ b → H[x]? = some y → lv (L x) y = true → (L x).blk ≠ (L b).blk := fun x y hne hx hv he => hne (h.inj x b y c hx hb hv hc he)
  refine ⟨hst', ⟨?_, ?_, ?_, ?_, hsz.symm ▸ h.gl⟩, by simp, hth, ⟨hos, htape, hout, by omega, ?_⟩, ?_⟩
  · intro x y hx
    rcases part x y hx with ⟨rfl, rfl⟩ | rfl | ⟨hne, hx1, hx2⟩
    · rw [Lnew_new]
      exact hw.stays hst' hok
    · trivial
    · rw [hst x hx1]
      exact ((h.blk x y hx2).block fun hv => hk _ (hno x y hne hx2 hv)).stays hst' (h.ok x y hx2)
  · intro x y hx
    rcases part x y hx with ⟨rfl, rfl⟩ | rfl | ⟨hne, hx1, hx2⟩
    · exact ABlk.ok_mono hth hok
    · trivial
    · exact ABlk.ok_mono hth (h.ok x y hx2)
  · intro x x' y y' hx hx' hv hv' he
    rcases part x y hx with ⟨hx1, hy1⟩ | rfl | ⟨hne, hx1, hx2⟩ <;> rcases part x' y' hx' with ⟨hx1', hy1'⟩ | rfl | ⟨hne', hx1', hx2'⟩
    · omega
    · cases hv'
    · rw [hx1, Lnew_new, hst x' hx1', hl] at he
      rw [hst x' hx1'] at hv'
      exact absurd he.symm (hno x' y' hne' hx2' hv')
    · cases hv
    · cases hv
    · cases hv
    · rw [hx1', Lnew_new, hst x hx1, hl] at he
      rw [hst x hx1] at hv
      exact absurd he (hno x y hne hx2 hv)
    · cases hv'
    · rw [hst x hx1] at hv he
      rw [hst x' hx1'] at hv' he
      exact h.inj x x' y y' hx2 hx2' hv hv' he
  · intro x y hx hv
    rcases part x y hx with ⟨hx1, hy1⟩ | rfl | ⟨hne, hx1, hx2⟩
    · rw [hx1, Lnew_new, hl]
      exact h.above b c hb hc
    · cases hv
    · rw [hst x hx1] at hv ⊢
      exact h.above x y hx2 hv
  · intro k _ hno
    exact hk k fun he => hno b c hb hc he.symm
  · intro x y hx hv
    rcases part x y hx with ⟨hx1, hy1⟩ | rfl | ⟨hne, hx1, hx2⟩
    · right
      exact ⟨b, c, hb, hc, by rw [hx1, Lnew_new, hl]⟩
    · cases hv
    · rw [hst x hx1] at hv ⊢
      exact .inr ⟨x, y, hx2, hv, rfl⟩

/- ROWS OF NUMBERS -/
def strOf (xs : List Int) : List UInt8 := xs.map fun i => UInt8.ofNat i.toNat
def bytesOf (s : List UInt8) : List Int := s.map fun b => (b.toNat : Int)
/-- the numbers behind a slice or a text: how many, which -/
def rowA (k : IntKind) (H : AHeap) (x : AVal) : Option (Nat × List Int × List Cond) :=
  match x with
  | .slice none len _ => bif Nat.beq len 0 then some (0, [], []) else none
  | .str s => bif decide (k = .u8) then some (s.length, bytesOf s, []) else none
  | .bsl b p o len =>
    match H[b]? with
    | some (.buf _ k' xs) => bif decide (k = k') then some (len, (xs.drop o).take len, [.le (o + len) xs.length]) else none
    | _ => none
  | .slice (some (b, o)) len cap =>
    match H[b]? with
    | some (.obj _ (.arr k' n xs)) => bif decide (k = k') then some (len, (xs.drop o).take len, [.le (o + len) n, .le n xs.length, .le xs.length n]) else none
    | some (.obj _ v) =>
      match AVal.get v o true len with
      | some (.arr k' n xs, c) => bif decide (k = k') then some (len, xs, .le n xs.length :: .le xs.length n :: c) else none
      | some (.w4 m, c) => bif decide (k = .u64) then some (len, [limb m 0, limb m 1, limb m 2, limb m 3], c) else none
      | _ => none
    | _ => none
  | _ => none
structure RowOk (P : Program) (w : World) (k : IntKind) (x : Value) (len : Nat) (row : List Int) : Prop where
  length : row.length = len
  lenOf : (Builtin.lenOf x).run P w = .ok len w
  first : ∀ m, m ≤ len → (Builtin.firstCells 1 m x).run P w = .ok (nums k (row.take m)).toArray w
theorem loadCells_row {P : Program} {w : World} {g o : Nat} {t : TypeId} {fr : Nat × Nat} {cs vs : List Value} (hg : w.heap[g]? = some (.cells cs.toArray t fr)) (hv : (cs.drop o).take vs.length = vs) :
    (loadCells ⟨g, o, none⟩ vs.length).run P w = .ok vs.toArray w := by
  refine run_loadCells_list (P := P) w ⟨g, o, none⟩ vs ?_
  intro j v hj
  have hlt := (List.getElem?_eq_some_iff.1 hj).1
  rw [addr_add, cell_of_row w g _ _ t fr hg]
  rw [← hv, List.getElem?_take_of_lt hlt, List.getElem?_drop] at hj
  simpa using hj
theorem nums_length (k : IntKind) (xs : List Int) : (nums k xs).length = xs.length := by simp [nums]
theorem nums_take (k : IntKind) (xs : List Int) (m : Nat) : nums k (xs.take m) = (nums k xs).take m := by simp [nums, List.map_take]
theorem nums_drop (k : IntKind) (xs : List Int) (m : Nat) : nums k (xs.drop m) = (nums k xs).drop m := by simp [nums, List.map_drop]
theorem nums_append (k : IntKind) (xs ys : List Int) : nums k (xs ++ ys) = nums k xs ++ nums k ys := by simp [nums]
theorem rowOk_cells {P : Program} {w : World} {k : IntKind} {g o : Nat} {t : TypeId} {fr : Nat × Nat} {cs : List Value} {len cap : Nat} {row : List Int} (hg : w.heap[g]? = some (.cells cs.toArray t fr)) (hl : row.length = len)
    (hv : (cs.drop o).take len = nums k row) : RowOk P w k (.slice (some ⟨g, o, none⟩) len cap) len row := by
  refine ⟨hl, rfl, ?_⟩
  intro m hm
  simp only [Builtin.firstCells, Nat.mul_one]
  have hlen : (nums k (row.take m)).length = m := by simp [nums]; omega
  have := loadCells_row (P := P) (o := o) (vs := nums k (row.take m)) hg (by
    rw [hlen, nums_take, ← hv, List.take_take, Nat.min_eq_left hm])
  rw [hlen] at this
  exact this
theorem rowA_ok {g : Nat} {P : Program} {L : Nat → Loc} {H : AHeap} {w : World} (hs : Sim g L H w) {k : IntKind} {x : AVal} {len : Nat} {row : List Int} {c : List Cond} (h : rowA k H x = some (len, row, c)) (hc : All c) :
    RowOk P w k (AVal.conc L x) len row := by
  unfold rowA at h
  split at h
  · rename_i len' cap
    cases hb : Nat.beq len' 0 with
    | false => simp [hb] at h
    | true =>
      simp only [hb, cond_true, Option.some.injEq, Prod.mk.injEq] at h
      obtain ⟨rfl, rfl, rfl⟩ := h
      obtain rfl := Nat.eq_of_beq_eq_true hb
      exact ⟨rfl, rfl, fun m hm => by simp [Builtin.firstCells, AVal.conc, nums]⟩
  · rename_i s
    cases hb : decide (k = .u8) with
    | false => simp [hb] at h
    | true =>
      simp only [hb, cond_true, Option.some.injEq, Prod.mk.injEq] at h
      obtain ⟨rfl, rfl, rfl⟩ := h
      obtain rfl := of_decide_eq_true hb
      refine ⟨by simp [bytesOf], ?_, ?_⟩
      · simp only [AVal.conc, Builtin.lenOf, RowKit.size_of_list, Sem.run_pure]
      · intro m hm
        simp only [AVal.conc, Builtin.firstCells, Sem.run_pure]
        congr 1
        apply Array.ext'
        simp [nums, bytesOf, List.map_take]
        rfl
  · rename_i b p o len'
    split at h
    · rename_i t k' xs hb
      cases hd : decide (k = k') with
      | false => simp [hd] at h
      | true =>
        simp only [hd, cond_true, Option.some.injEq, Prod.mk.injEq] at h
        obtain ⟨rfl, rfl, rfl⟩ := h
        obtain rfl := of_decide_eq_true hd
        have hle : o + len' ≤ xs.length := hc.1
        have hlen : ((xs.drop o).take len').length = len' := by simp; omega
        rcases hs.blk b _ hb with ⟨hn, hx0, hcap0⟩ | ⟨hn, pre, post, fr, h1, h2, h3, h3', hf⟩
        · subst hx0
          have : len' = 0 := by simp at hle; omega
          subst this
          refine ⟨rfl, by simp only [AVal.conc, hn, cond_true]; rfl, ?_⟩
          intro m hm
          simp [AVal.conc, hn, Builtin.firstCells, nums]
        · simp only [AVal.conc, hn, cond_false]
          by_cases hco : (L b).cap = o
          · have h0 : len' = 0 := by omega
            subst h0
            exact rowOk_cells h1 hlen (by simp [nums])
          · rw [if_neg hco]
            refine rowOk_cells h1 hlen ?_
            rw [← h2, List.drop_append, List.drop_eq_nil_of_le (by omega), List.nil_append, show pre.length + o - pre.length = o by omega, List.drop_append_of_le_length (by simp [nums]; omega),
              List.take_append_of_le_length (by simp [nums]; omega), nums_take, nums_drop]
    · cases h
  · rename_i b o len' cap
    split at h
    · rename_i t k' n xs hb
      cases hd : decide (k = k') with
      | false => simp [hd] at h
      | true =>
        simp only [hd, cond_true, Option.some.injEq, Prod.mk.injEq] at h
        obtain ⟨rfl, rfl, rfl⟩ := h
        obtain rfl := of_decide_eq_true hd
        have hle : o + len' ≤ n := hc.1
        have hn1 : n ≤ xs.length := hc.2.1
        have hn2 : xs.length ≤ n := hc.2.2.1
        obtain ⟨hn, h0, fr, hf, hh⟩ := hs.blk b _ hb
        simp only [AVal.conc, h0, Nat.zero_add]
        refine rowOk_cells hh (by simp; omega) ?_
        simp only [AVal.cells]
        rw [ints_nums k n xs (by omega), nums_take, nums_drop]
    · rename_i t v hne hb
      obtain ⟨hn, h0, fr, hf, hh⟩ := hs.blk b _ hb
      have hok := hs.ok b _ hb
      split at h
      · rename_i k' n xs c' hget
        cases hd : decide (k = k') with
        | false => simp [hd] at h
        | true =>
          simp only [hd, cond_true, Option.some.injEq, Prod.mk.injEq] at h
          obtain ⟨rfl, rfl, rfl⟩ := h
          obtain rfl := of_decide_eq_true hd
          have hn1 : n ≤ xs.length := hc.1
          have hn2 : xs.length ≤ n := hc.2.1
          have G := AVal.get_ok L (Th H) v o true len' _ c' hok hget hc.2.2
          have hsz : n = len' := G.size
          simp only [AVal.conc, h0, Nat.zero_add]
          refine rowOk_cells hh (by omega) ?_
          rw [← G.cells]
          simp only [AVal.cells]
          rw [ints_nums k n xs (by omega)]
      · rename_i m c' hget
        cases hd : decide (k = .u64) with
        | false => simp [hd] at h
        | true =>
          simp only [hd, cond_true, Option.some.injEq, Prod.mk.injEq] at h
          obtain ⟨rfl, rfl, rfl⟩ := h
          obtain rfl := of_decide_eq_true hd
          have G := AVal.get_ok L (Th H) v o true len' _ c' hok hget hc
          have hsz : 4 = len' := G.size
          simp only [AVal.conc, h0, Nat.zero_add]
          refine rowOk_cells hh (by simp; omega) ?_
          rw [← G.cells]
          rfl
      · cases h
    · cases h
  · cases h

/- A TEXT OF BYTES -/
def toStrA (P : Program) (H : AHeap) (src dst : TypeId) (x : AVal) : Option (AVal × List Cond) :=
  match P.underlying src, P.underlying dst with
  | some (.slice e), some .string =>
    match P.underlying e, x with
    | some (.int .u8), .slice none _ _ => some (.str [], [])
    | some (.int .u8), .bsl b p o len =>
      match rowA .u8 H (.bsl b p o len) with
      | some (_, row, c) => some (.str (strOf row), c)
      | none => none
    | some (.int .u8), .slice (some (b, o)) len cap =>
      match rowA .u8 H (.slice (some (b, o)) len cap) with
      | some (_, row, c) => some (.str (strOf row), c)
      | none => none
    | _, _ => none
  | _, _ => none
theorem foldl_push : ∀ (row : List Int) (r : List UInt8), (row.foldl (fun (r : ByteArray) n => r.push (UInt8.ofNat n.toNat)) ⟨r.toArray⟩) = ⟨(r ++ strOf row).toArray⟩
  | [], r => by simp [strOf]
  | n :: row, r => by
    simp only [List.foldl_cons]
    have : (⟨r.toArray⟩ : ByteArray).push (UInt8.ofNat n.toNat) = ⟨(r ++ [UInt8.ofNat n.toNat]).toArray⟩ := by
      apply ByteArray.ext
      simp
    rw [this, foldl_push row]
    simp [strOf]
theorem toStr_run {P : Program} {w : World} {x : Value} {a : Option Addr} {len cap : Nat} {row : List Int} (hx : x = .slice a len cap) (R : RowOk P w .u8 x len row) :
    (Conv.bytesToString x).run P w = .ok (.string ⟨(strOf row).toArray⟩) w := by
  subst hx
  cases a with
  | none =>
    have h := R.first len (Nat.le_refl _)
    simp only [Builtin.firstCells, Sem.run_pure, Result.ok.injEq, and_true] at h
    have h2 := congrArg Array.size h
    rw [List.take_of_length_le (by rw [R.length]; exact Nat.le_refl _)] at h2
    simp [nums] at h2
    have : row = [] := List.eq_nil_of_length_eq_zero h2.symm
    subst this
    rfl
  | some a =>
    have h := R.first len (Nat.le_refl _)
    simp only [Builtin.firstCells, Nat.mul_one] at h
    rw [List.take_of_length_le (by rw [R.length]; exact Nat.le_refl _)] at h
    rw [run_bytesToString w a len cap row h]
    have := foldl_push row []
    simp only [List.nil_append] at this
    rw [← this]
    rfl
theorem toStrA_ok {g : Nat} {P : Program} {L : Nat → Loc} {H : AHeap} {w : World} (hs : Sim g L H w) {src dst : TypeId} {x v : AVal} {c : List Cond} (h : toStrA P H src dst x = some (v, c)) (hc : All c) (n : Nat → Prop) :
    (convert src dst (AVal.conc L x)).run P w = .ok (AVal.conc L v) w ∧ AVal.ok n v := by
  unfold toStrA at h
  split at h
  · rename_i e hu hd
    have key : ∀ (a : Option Addr) (len cap : Nat) (r : Value), P.underlying e = some (.int .u8) → (Conv.bytesToString (.slice a len cap)).run P w = .ok r w → (convert src dst (.slice a len cap)).run P w = .ok r w := by
      intro a len cap r he hr
      unfold convert
      refine run_bindq (run_underlying hu w) ?_
      refine run_bindq (run_underlying hd w) ?_
      refine run_bindq (run_underlying he w) ?_
      exact hr
    split at h
    · rename_i len cap he
      simp only [Option.some.injEq, Prod.mk.injEq] at h
      obtain ⟨rfl, rfl⟩ := h
      exact ⟨key none len cap _ he rfl, trivial⟩
    · rename_i b p o len he
      split at h
      · rename_i l row c' hr
        simp only [Option.some.injEq, Prod.mk.injEq] at h
        obtain ⟨rfl, rfl⟩ := h
        have R := rowA_ok (P := P) hs hr hc
        have hl : l = len := by
          have := R.lenOf
          simp only [AVal.conc, Builtin.lenOf, Sem.run_pure, Result.ok.injEq, and_true] at this
          exact this.symm
        subst hl
        exact ⟨key _ _ _ _ he (toStr_run rfl R), trivial⟩
      · cases h
    · rename_i b o len cap he
      split at h
      · rename_i l row c' hr
        simp only [Option.some.injEq, Prod.mk.injEq] at h
        obtain ⟨rfl, rfl⟩ := h
        have R := rowA_ok (P := P) hs hr hc
        have hl : l = len := by
          have := R.lenOf
          simp only [AVal.conc, Builtin.lenOf, Sem.run_pure, Result.ok.injEq, and_true] at this
          exact this.symm
        subst hl
        exact ⟨key _ _ _ _ he (toStr_run rfl R), trivial⟩
      · cases h
    · cases h
  · cases h
end Go.Am
/- AN ABSTRACT MACHINE. Part 11: bytes of a text, append, copy. -/
namespace Go.Am
/- BYTES OF A TEXT -/
def toBytesA (P : Program) (H : AHeap) (src dst : TypeId) (x : AVal) : Option (AVal × AHeap) :=
  match P.underlying src, P.underlying dst, x with
  | some .string, some (.slice e), .str s =>
    match P.underlying e with
    | some (.int .u8) => some (.bsl H.length 0 0 s.length, H ++ [.buf e .u8 (bytesOf s)])
    | _ => none
  | _, _, _ => none
theorem freeze_new (w : World) (cs : Array Value) (t : TypeId) : (w.alloc (.cells cs t)).freeze { block := w.heap.size, off := cs.size } 1 = w.alloc (.cells cs t (cs.size, cs.size + 1)) := by
  unfold World.freeze World.alloc
  simp only [Nat.succ_ne_zero, if_false]
  congr 1
  apply Array.ext
  · simp
  · intro i h1 h2
    simp only [Array.getElem_modify, Array.getElem_push]
    by_cases hi : i < w.heap.size
    · have : ¬ w.heap.size = i := by omega
      simp [hi, this]
    · have : w.heap.size = i := by simp at h2; omega
      simp [this]
theorem Step.rowFr {g : Nat} {L : Nat → Loc} {H : AHeap} {w : World} (h : Sim g L H w) (t : TypeId) (k : IntKind) (xs : List Int) (post : List Value) (cap : Nat) (fr : Nat × Nat) (h1 : xs.length ≤ cap) (h2 : cap ≤ xs.length + post.length) (hf : unf fr (xs.length + post.length)) :
    Step g L H w (Lnew L H.length ⟨w.heap.size, 0, cap, false⟩) (H ++ [.buf t k xs]) (w.alloc (.cells (nums k xs ++ post).toArray t fr)) :=
  Step.alloc h (.buf t k xs) trivial rfl _ cap (.inr ⟨rfl, [], post, fr, by rw [List.nil_append]; exact heap_alloc_new' _ _, rfl, h1, h2, by simpa using hf⟩)
theorem toBytesA_ok {g : Nat} {P : Program} {L : Nat → Loc} {H H' : AHeap} {w : World} (hs : Sim g L H w) {src dst : TypeId} {x v : AVal} (h : toBytesA P H src dst x = some (v, H')) :
    MemOk g P L H w (convert src dst (AVal.conc L x)) v H' := by
  unfold toBytesA at h
  split at h
  · rename_i e s hu hd
    split at h
    · rename_i he
      simp only [Option.some.injEq, Prod.mk.injEq] at h
      obtain ⟨rfl, rfl⟩ := h
      have S1 := Step.drew hs
      have hcap : s.length ≤ (Question.appendCap s.length 0 e).cut (w.tape w.drawn (.appendCap s.length 0 e)) := by
        simp only [Question.cut]; omega
      generalize hc : (Question.appendCap s.length 0 e).cut (w.tape w.drawn (.appendCap s.length 0 e)) = cap at hcap
      have hb : (bytesOf s).length = s.length := by simp [bytesOf]
      have S2 := Step.rowFr S1.sim e .u8 (bytesOf s) (List.replicate (cap - s.length) (Value.int .u8 0)) cap (cap, cap + 1) (by omega) (by simp; omega) (by left; simp; omega)
      refine ⟨_, _, ?_, S1.trans S2, ⟨Th.new rfl, Nat.le_refl _⟩⟩
      unfold convert
      refine run_bindq (run_underlying hu w) ?_
      refine run_bindq (run_underlying hd w) ?_
      refine run_bindq (run_underlying he w) ?_
      show (Conv.stringToBytes e _).run P w = _
      unfold Conv.stringToBytes
      have hsz := RowKit.size_of_list s
      have hch : (choose (.appendCap (⟨s.toArray⟩ : ByteArray).size 0 e)).run P w = .ok cap w.drew := by
        rw [hsz, ← hc]
        rfl
      rw [Sem.run_bind, hch, Result.andThen_ok]
      have hcells : (((⟨s.toArray⟩ : ByteArray).data.map fun b => (.int .u8 b.toNat : Value)) ++ Array.replicate (cap - (⟨s.toArray⟩ : ByteArray).size) (Value.int .u8 0)) = (nums .u8 (bytesOf s) ++ List.replicate (cap - s.length) (Value.int .u8 0)).toArray := by
        apply Array.ext'
        rw [hsz]
        simp [nums, bytesOf]
      dsimp only
      rw [hcells, Sem.run_bind, newRow_run, Result.andThen_ok]
      have hsize : ((nums .u8 (bytesOf s) ++ List.replicate (cap - s.length) (Value.int .u8 0)).toArray : Array Value).size = cap := by
        simp [nums, bytesOf]; omega
      have hmark : (markStringish (⟨w.drew.heap.size, 0, none⟩ : Addr)).run P (w.drew.alloc (.cells (nums .u8 (bytesOf s) ++ List.replicate (cap - s.length) (Value.int .u8 0)).toArray e)) = .ok () (w.drew.alloc (.cells (nums .u8 (bytesOf s) ++ List.replicate (cap - s.length) (Value.int .u8 0)).toArray e (cap, cap + 1))) := by
        unfold markStringish
        have hshape : (shape w.drew.heap.size).run P (w.drew.alloc (.cells (nums .u8 (bytesOf s) ++ List.replicate (cap - s.length) (Value.int .u8 0)).toArray e)) = .ok (some (e, cap)) (w.drew.alloc (.cells (nums .u8 (bytesOf s) ++ List.replicate (cap - s.length) (Value.int .u8 0)).toArray e)) := by
          show Result.ok (World.shape? _ _) _ = _
          unfold World.shape?
          rw [heap_alloc_new']
          simp only [hsize]
        rw [Sem.run_bind, hshape, Result.andThen_ok]
        show Result.ok () _ = _
        have := freeze_new w.drew (nums .u8 (bytesOf s) ++ List.replicate (cap - s.length) (Value.int .u8 0)).toArray e
        rw [hsize] at this
        rw [this]
      rw [Sem.run_bind, hmark, Result.andThen_ok, hsz]
      simp only [Sem.run_pure, AVal.conc, Lnew_new, ite_self, Nat.add_zero, Nat.sub_zero, cond_false]
    · cases h
  · cases h

/- APPEND -/
def isInt : TypeDesc → Bool
  | .int _ => true
  | _ => false
/-- the slice that is appended to: its block, how long, its numbers -/
def baseA (k : IntKind) (e : TypeId) (H : AHeap) (s : AVal) : Option (Option Nat × Nat × List Int × List Cond) :=
  match s with
  | .slice none len cap => bif Nat.beq len 0 && Nat.beq cap 0 then some (none, 0, [], []) else none
  | .bsl b p o len =>
    match H[b]? with
    | some (.buf t' k' xs) => bif decide (k = k') && Nat.beq t' e then some (some b, len, (xs.drop o).take len, [.le (o + len) xs.length]) else none
    | _ => none
  | _ => none
def dropO (H : AHeap) : Option Nat → AHeap
  | none => H
  | some b => H.set b .gone
def sumO : Option Nat → Nat → Nat → Nat
  | none, _, n => n
  | some _, len, n => len + n
def catO : Option Nat → List Int → List Int → List Int
  | none, _, ys => ys
  | some _, xs, ys => xs ++ ys
def appendA (P : Program) (H : AHeap) (ts : Array TypeId) (s x : AVal) : Option (AVal × AHeap × List Cond) :=
  match ts[0]?, ts[1]? with
  | some st, some xt =>
    match P.underlying st, P.underlying xt with
    | some (.slice e), some dx =>
      bif isInt dx then none else
      match zeroA P e, P.info? e with
      | some (.int k z), some ti =>
        bif decide (z = 0) && Nat.ble ti.bytes 8 then
          match baseA k e H s, rowA k H x with
          | some (b, len, row, c1), some (n, new, c2) => some (.bsl H.length 0 0 (sumO b len n), dropO H b ++ [.buf e k (catO b row new)], c1 ++ (c2 ++ [.le (sumO b len n) 1099511627776]))
          | _, _ => none
        else none
      | _, _ => none
    | _, _ => none
  | _, _ => none
theorem growBy_bound (need : Nat) : ∀ (r c : Nat), c ≤ 2 * need + 768 → Builtin.growBy need r c ≤ 2 * need + 768
  | 0, c, h => h
  | r + 1, c, h => by
    simp only [Builtin.growBy]
    split
    · exact h
    · exact growBy_bound need r _ (by omega)
theorem nextslicecap_bound {need cap : Nat} (h : cap < need) : Builtin.nextslicecap need cap ≤ 2 * need + 768 := by
  unfold Builtin.nextslicecap
  split
  · omega
  · split
    · omega
    · exact growBy_bound need 4 cap (by omega)
/-- the run of append: in place, or into a new row -/
theorem append_run {P : Program} {ts : Array TypeId} {st xt e : TypeId} {dx : TypeDesc} (h0 : ts[0]? = some st) (h1 : ts[1]? = some xt) (hu : P.underlying st = some (.slice e)) (hx : P.underlying xt = some dx) (hnx : isInt dx = false)
    {ti : TypeInfo} (hi : P.info? e = some ti) (hsz : ti.size = 1) (hby : ti.bytes ≤ 8) (ty : TypeId) (base : Option Addr) {sLen sCap n : Nat} {x : Value} (hn : ∀ w, (Builtin.lenOf x).run P w = .ok n w) (w : World) (r : Result Value)
    (hin : sLen + n ≤ sCap → (do let new ← Builtin.firstCells 1 n x
                                 if let some a := base then storeCells (a.add (sLen * 1)) new.toList
                                 pure (.slice base (sLen + n) sCap) : Sem Value).run P w = r)
    (hbig : sLen + n ≤ 1099511627776)
    (hout : ¬ sLen + n ≤ sCap → (do let newCap ← choose (.appendCap (sLen + n) sCap e)
                                    askRoom (newCap * (← typeInfo e).bytes)
                                    let old ← Builtin.firstCells 1 sLen (.slice base sLen sCap)
                                    let new ← Builtin.firstCells 1 n x
                                    let rest := Builtin.zeroCells (← zeroValue e).cells (newCap - (sLen + n))
                                    pure (.slice (some (← newRow e (old ++ new ++ rest))) (sLen + n) newCap) : Sem Value).run P w = r) :
    (Builtin.append_ ts ty #[.slice base sLen sCap, x]).run P w = r := by
  have a0 : (#[Value.slice base sLen sCap, x] : Array Value)[0]? = some (.slice base sLen sCap) := rfl
  have a1 : (#[Value.slice base sLen sCap, x] : Array Value)[1]? = some x := rfl
  unfold Builtin.append_
  rw [h0, a0, a1]
  refine run_bindq (run_underlying hu w) ?_
  refine run_bindq (run_sizeOf hi w) ?_
  rw [hsz, h1]
  simp only [Sem.run_bind, run_underlying hx w, Result.andThen_ok, Sem.run_pure]
  have hti : (typeInfo e).run P w = .ok ti w := by simp [typeInfo, hi]
  have hmax : ¬ (((sLen + n : Nat) : Int) > IntKind.i64.max) := by
    show ¬ (_ > (9223372036854775807 : Int))
    omega
  cases dx with
  | int k => simp [isInt] at hnx
  | _ =>
    simp only [Bool.false_eq_true, if_false, Bool.not_false, if_true]
    refine run_bindq (hn w) ?_
    by_cases hle : sLen + n ≤ sCap
    · rw [if_pos hle]
      exact hin hle
    · have hnb : ¬ (Builtin.nextslicecap (sLen + n) sCap * ti.bytes > 2 ^ 48) := by
        have := nextslicecap_bound (need := sLen + n) (cap := sCap) (by omega)
        have h2 : Builtin.nextslicecap (sLen + n) sCap * ti.bytes ≤ (2 * (sLen + n) + 768) * 8 := Nat.mul_le_mul this hby
        omega
      rw [if_neg hle]
      refine run_bindq hti ?_
      rw [if_neg (fun h => hmax h.1)]
      refine run_bindq hti ?_
      rw [if_neg hnb]
      exact hout hle
end Go.Am
/- AN ABSTRACT MACHINE. Part 12: append, copy. -/
namespace Go.Am
theorem zeroCells_len (z : Array Value) (n : Nat) (hz : z.size = 1) : (Builtin.zeroCells z n).size = n := by simp [Builtin.zeroCells, hz]
theorem appendOut {P : Program} {w : World} {k : IntKind} {e : TypeId} {ti : TypeInfo} (hi : P.info? e = some ti) {z : AVal} (Z : ZeroOk P e z) (hz1 : z.size = 1) {base : Option Addr} {sLen sCap n : Nat} {row new : List Int} {x : Value}
    (RB : RowOk P w.drew k (.slice base sLen sCap) sLen row) (RX : RowOk P w.drew k x n new) (L : Nat → Loc) :
    ∃ (post : List Value) (cap : Nat), sLen + n ≤ cap ∧ cap = sLen + n + post.length ∧
    (do let newCap ← choose (.appendCap (sLen + n) sCap e)
        askRoom (newCap * (← typeInfo e).bytes)
        let old ← Builtin.firstCells 1 sLen (.slice base sLen sCap)
        let new ← Builtin.firstCells 1 n x
        let rest := Builtin.zeroCells (← zeroValue e).cells (newCap - (sLen + n))
        pure (.slice (some (← newRow e (old ++ new ++ rest))) (sLen + n) newCap) : Sem Value).run P w =
      .ok (.slice (some ⟨w.drew.heap.size, 0, none⟩) (sLen + n) cap) (w.drew.alloc (.cells (nums k (row ++ new) ++ post).toArray e)) := by
  have hcap : sLen + n ≤ (Question.appendCap (sLen + n) sCap e).cut (w.tape w.drawn (.appendCap (sLen + n) sCap e)) := by
    simp only [Question.cut]; omega
  generalize hc : (Question.appendCap (sLen + n) sCap e).cut (w.tape w.drawn (.appendCap (sLen + n) sCap e)) = cap at hcap
  have hz : (AVal.conc L z).cells.size = 1 := by rw [AVal.cells_conc, List.size_toArray, AVal.cells_length, hz1]
  refine ⟨(Builtin.zeroCells (AVal.conc L z).cells (cap - (sLen + n))).toList, cap, hcap, ?_, ?_⟩
  · rw [Array.length_toList, zeroCells_len _ _ hz]; omega
  have hch : (choose (.appendCap (sLen + n) sCap e)).run P w = .ok cap w.drew := by rw [← hc]; rfl
  rw [Sem.run_bind, hch, Result.andThen_ok]
  have hti : (typeInfo e).run P w.drew = .ok ti w.drew := by simp [typeInfo, hi]
  rw [Sem.run_bind, hti, Result.andThen_ok]
  rw [Sem.run_bind, run_askRoom, Result.andThen_ok]
  rw [Sem.run_bind, RB.first sLen (Nat.le_refl _), Result.andThen_ok]
  rw [Sem.run_bind, RX.first n (Nat.le_refl _), Result.andThen_ok]
  rw [Sem.run_bind, Z.run L, Result.andThen_ok]
  dsimp only
  rw [List.take_of_length_le (by rw [RB.length]; exact Nat.le_refl _), List.take_of_length_le (by rw [RX.length]; exact Nat.le_refl _)]
  have hcells : (nums k row).toArray ++ (nums k new).toArray ++ Builtin.zeroCells (AVal.conc L z).cells (cap - (sLen + n)) = (nums k (row ++ new) ++ (Builtin.zeroCells (AVal.conc L z).cells (cap - (sLen + n))).toList).toArray := by
    apply Array.ext'
    simp [nums_append]
  rw [hcells, Sem.run_bind, newRow_run, Result.andThen_ok]
  rfl
theorem nums_oneCell (k : IntKind) (xs : List Int) : ∀ v ∈ nums k xs, v.oneCell' = true := by
  intro v hv
  simp only [nums, List.mem_map] at hv
  obtain ⟨i, _, rfl⟩ := hv
  rfl
theorem appendA_ok {g : Nat} {P : Program} {L : Nat → Loc} {H H' : AHeap} {w : World} (hs : Sim g L H w) {ts : Array TypeId} {s x v : AVal} {c : List Cond} (h : appendA P H ts s x = some (v, H', c)) (hc : All c) (hsok : AVal.ok (Th H) s) (ty : TypeId) :
    MemOk g P L H w (Builtin.append_ ts ty #[AVal.conc L s, AVal.conc L x]) v H' := by
  unfold appendA at h
  split at h
  · rename_i st xt h0 h1
    split at h
    · rename_i e dx hu hx
      cases hnx : isInt dx with
      | true => simp [hnx] at h
      | false =>
        simp only [hnx, cond_false] at h
        split at h
        · rename_i k z ti hz hi
          have Z := zeroA_ok hz
          cases hb : (decide (z = 0) && Nat.ble ti.bytes 8) with
          | false => simp [hb] at h
          | true =>
            simp only [hb, cond_true] at h
            simp only [Bool.and_eq_true] at hb
            have hby := Nat.le_of_ble_eq_true hb.2
            obtain ⟨it, hit, hsz⟩ := Z.size
            have hit' : it = ti := by rw [hi] at hit; exact (Option.some.inj hit).symm
            subst hit'
            have e1 : it.size = 1 := by rw [hsz]; rfl
            split at h
            · rename_i b len row c1 n new c2 hbase hrow
              simp only [Option.some.injEq, Prod.mk.injEq] at h
              obtain ⟨rfl, rfl, rfl⟩ := h
              obtain ⟨hc1, hc2'⟩ := (All_append _ _).1 hc
              obtain ⟨hc2, hc3⟩ := (All_append _ _).1 hc2'
              have hbig : sumO b len n ≤ 1099511627776 := hc3.1
              have S1 := Step.drew hs
              have RX := rowA_ok (P := P) hs hrow hc2
              have RX1 := rowA_ok (P := P) S1.sim hrow hc2
              have hn : ∀ w', (Builtin.lenOf (AVal.conc L x)).run P w' = .ok n w' := by
                intro w'
                have := RX.lenOf
                revert this
                unfold Builtin.lenOf
                cases AVal.conc L x <;> simp [stuck]
              have hnew' : ∀ (c0 : ABlk) (hm : c0.made = true := by rfl) {bo : Option Nat} {n0 : Nat}, AVal.ok (Th (dropO H bo ++ [c0])) (.bsl H.length 0 0 n0) := by
                intro c0 hm bo n0
                refine ⟨?_, Nat.le_refl _⟩
                have hdl : (dropO H bo).length = H.length := by cases bo <;> simp [dropO]
                rw [← hdl]
                exact Th.new hm
              -- into a new row
              have grow : ∀ (base : Option Addr) (len' : Nat) (row' : List Int) (sCap : Nat) (b' : Option Nat), (∀ b0, b' = some b0 → b0 < H.length) → sumO b len n = len' + n → catO b row new = row' ++ new → RowOk P w.drew k (.slice base len' sCap) len' row' → ∃ L' w',
                  (do let newCap ← choose (.appendCap (len' + n) sCap e)
                      askRoom (newCap * (← typeInfo e).bytes)
                      let old ← Builtin.firstCells 1 len' (.slice base len' sCap)
                      let new ← Builtin.firstCells 1 n (AVal.conc L x)
                      let rest := Builtin.zeroCells (← zeroValue e).cells (newCap - (len' + n))
                      pure (.slice (some (← newRow e (old ++ new ++ rest))) (len' + n) newCap) : Sem Value).run P w = .ok (AVal.conc L' (.bsl H.length 0 0 (sumO b len n))) w' ∧ Step g L H w L' (dropO H b' ++ [.buf e k (catO b row new)]) w' := by
                intro base len' row' sCap b' hb' hsum hcat RB
                obtain ⟨post, cap, g1, g2, g3⟩ := appendOut hi Z rfl RB RX1 L
                have S2 : Step g L H w L (dropO H b') w.drew := by
                  cases b' with
                  | none => exact S1
                  | some b0 => exact S1.trans (Step.drop S1.sim (hb' b0 rfl))
                have hdl : (dropO H b').length = H.length := by cases b' <;> simp [dropO]
                have S3 := Step.row S2.sim e k (row' ++ new) post cap (by rw [List.length_append, RB.length, RX.length]; exact g1) (by rw [List.length_append, RB.length, RX.length]; omega)
                have ST := S2.trans S3
                rw [← hcat] at ST
                refine ⟨_, _, ?_, ST⟩
                · rw [g3, hcat]
                  simp only [AVal.conc, hdl, Lnew_new, ite_self, Nat.add_zero, Nat.sub_zero, cond_false, hsum]
              unfold baseA at hbase
              split at hbase
              · rename_i len0 cap0
                cases hb0 : (Nat.beq len0 0 && Nat.beq cap0 0) with
                | false => simp [hb0] at hbase
                | true =>
                  simp only [hb0, cond_true, Option.some.injEq, Prod.mk.injEq] at hbase
                  obtain ⟨rfl, rfl, rfl, rfl⟩ := hbase
                  simp only [Bool.and_eq_true] at hb0
                  obtain rfl := Nat.eq_of_beq_eq_true hb0.1
                  obtain rfl := Nat.eq_of_beq_eq_true hb0.2
                  obtain ⟨L', w', g1, g2⟩ := grow none 0 [] 0 none (fun _ h => by cases h) (Nat.zero_add n).symm rfl ⟨rfl, rfl, fun m hm => by simp [Builtin.firstCells, nums]⟩
                  by_cases hn0 : n = 0
                  · subst hn0
                    have hnew : new = [] := List.eq_nil_of_length_eq_zero RX.length
                    subst hnew
                    refine ⟨_, _, ?_, Step.none hs e k, ⟨Th.new rfl, Nat.le_refl _⟩⟩
                    refine append_run h0 h1 hu hx hnx hi e1 hby ty none hn w _ ?_ (by omega) (by omega)
                    intro _
                    rw [Sem.run_bind, RX.first 0 (Nat.le_refl _), Result.andThen_ok]
                    simp only [Sem.run_pure, AVal.conc, Lnew_new, cond_true, sumO]
                  · refine ⟨L', w', ?_, g2, hnew' _⟩
                    refine append_run h0 h1 hu hx hnx hi e1 hby ty none hn w _ (by omega) (by simpa [sumO] using hbig) ?_
                    intro _
                    exact g1
              · rename_i b0 p o len0
                split at hbase
                · rename_i t' k' xs hb0
                  cases hd : (decide (k = k') && Nat.beq t' e) with
                  | false => simp [hd] at hbase
                  | true =>
                    simp only [hd, cond_true, Option.some.injEq, Prod.mk.injEq] at hbase
                    obtain ⟨rfl, rfl, rfl, rfl⟩ := hbase
                    simp only [Bool.and_eq_true] at hd
                    obtain rfl := of_decide_eq_true hd.1
                    obtain rfl : e = t' := (Nat.eq_of_beq_eq_true hd.2).symm
                    have hle : o + len0 ≤ xs.length := hc1.1
                    have hlt := (List.getElem?_eq_some_iff.1 hb0).1
                    have hrowB : rowA k H (.bsl b0 p o len0) = some (len0, (xs.drop o).take len0, [.le (o + len0) xs.length]) := by simp [rowA, hb0]
                    have RB := rowA_ok (P := P) hs hrowB ⟨hle, trivial⟩
                    have RB1 := rowA_ok (P := P) S1.sim hrowB ⟨hle, trivial⟩
                    have hconc : ∃ base sCap, AVal.conc L (.bsl b0 p o len0) = .slice base len0 sCap ∧ base = (bif (L b0).nil then none else some ⟨(L b0).blk, (L b0).base + (if (L b0).cap = o then p else o), none⟩) ∧ sCap = (L b0).cap - o := ⟨_, _, rfl, rfl, rfl⟩
                    obtain ⟨base, sCap, hcv, hbv, hsv⟩ := hconc
                    rw [hcv] at RB RB1 ⊢
                    obtain ⟨L', w', g1, g2⟩ := grow base len0 _ sCap (some b0) (fun _ h => by cases h; exact hlt) rfl rfl RB1
                    by_cases hin : len0 + n ≤ sCap
                    · rcases hs.blk b0 _ hb0 with ⟨hnil, hx0, hcap0⟩ | ⟨hnn, pre, post, fr, q1, q2, q3, q3', qf⟩
                      · subst hx0
                        have hl0 : len0 = 0 := by simp at hle; omega
                        have hn0 : n = 0 := by omega
                        subst hl0 hn0
                        have hnew : new = [] := List.eq_nil_of_length_eq_zero RX.length
                        subst hnew
                        have SD := Step.drop hs hlt
                        have SN := Step.none SD.sim e k
                        have hdl : (H.set b0 .gone).length = H.length := by simp
                        refine ⟨_, _, ?_, SD.trans (by simpa [catO, dropO] using SN), hnew' _⟩
                        refine append_run h0 h1 hu hx hnx hi e1 hby ty base hn w _ ?_ (by omega) (fun h => absurd hin h)
                        intro _
                        rw [Sem.run_bind, RX.first 0 (Nat.le_refl _), Result.andThen_ok]
                        rw [hnil] at hbv
                        subst hbv
                        simp only [cond_true, Sem.run_pure, AVal.conc, Lnew_new, sumO, hsv, hcap0]
                        simp
                      · have hpo : p ≤ o := hsok.2
                        rw [hnn, cond_false] at hbv
                        generalize hp' : (if (L b0).cap = o then p else o) = p' at hbv
                        have hp'o : p' ≤ o := by rw [← hp']; split <;> omega
                        have hpc : (L b0).cap = o ∨ p' = o := by
                          by_cases h : (L b0).cap = o
                          · exact .inl h
                          · right; rw [← hp', if_neg h]
                        have hrl : ((xs.drop o).take len0).length = len0 := by simp; omega
                        have hnl := RX.length
                        generalize hcs : pre ++ (nums k xs ++ post) = cs at q1
                        have hcl : cs.length = (L b0).base + (xs.length + post.length) := by rw [← hcs]; simp [nums]; omega
                        have hrow0 : (cs.drop ((L b0).base + p')).take len0 = nums k ((xs.drop o).take len0) := by
                          rcases hpc with h | h
                          · have : len0 = 0 := by omega
                            subst this
                            simp [nums]
                          · rw [h, ← hcs, ← q2, List.drop_append, List.drop_eq_nil_of_le (by omega), List.nil_append, show pre.length + o - pre.length = o by omega, List.drop_append_of_le_length (by simp [nums]; omega),
                              List.take_append_of_le_length (by simp [nums]; omega), nums_take, nums_drop]
                        have hfit : (L b0).base + p' + len0 + n ≤ cs.length := by rcases hpc with h | h <;> omega
                        have hst := storeCells_any P (L b0).blk ((L b0).base + p' + len0) e fr (nums k new) 0 cs w q1 (by rw [hcl]; exact qf) (by rw [nums_length, hnl]; omega) (nums_oneCell k new)
                        have hmv := Step.move (w' := w.setRow (L b0).blk (cs.take ((L b0).base + p' + len0 + 0) ++ (nums k new ++ cs.drop ((L b0).base + p' + len0 + 0 + (nums k new).length))).toArray) hs hb0 (by simp [lv, ABlk.live, hnn]) (c' := .buf e k ((xs.drop o).take len0 ++ new)) trivial rfl ⟨(L b0).blk, (L b0).base + p', (L b0).cap - o, false⟩ rfl
                          (.inr ⟨rfl, cs.take ((L b0).base + p'), cs.drop ((L b0).base + p' + len0 + n), fr, ?_, by simp; omega, by simp; omega, by simp; rcases hpc with h | h <;> omega, by simp; rw [show (L b0).base + p' + (min len0 (xs.length - o) + new.length + (cs.length - ((L b0).base + p' + len0 + n))) = (L b0).base + (xs.length + post.length) by omega]; exact qf⟩) rfl rfl rfl (by simp) (fun k hk => setRow_other w _ k _ hk)
                        · refine ⟨_, _, ?_, hmv, hnew' _⟩
                          refine append_run h0 h1 hu hx hnx hi e1 hby ty base hn w _ ?_ hbig (fun h => absurd hin h)
                          intro _
                          rw [Sem.run_bind, RX.first n (Nat.le_refl _), Result.andThen_ok]
                          subst hbv
                          dsimp only
                          rw [List.take_of_length_le (by rw [hnl]; exact Nat.le_refl _), addr_add, Nat.mul_one, Sem.run_bind, hst, Result.andThen_ok]
                          simp only [Sem.run_pure, AVal.conc, Lnew_new, cond_false, Nat.sub_zero, hsv, ite_self, Nat.add_zero, sumO]
                        · rw [setRow_heap w _ _ _ e fr q1]
                          congr 2
                          rw [nums_length, hnl, Nat.add_zero, nums_append, ← hrow0]
                          rw [List.take_add]
                          simp only [List.append_assoc]
                    · refine ⟨L', w', ?_, g2, hnew' _⟩
                      refine append_run h0 h1 hu hx hnx hi e1 hby ty base hn w _ (fun h => absurd h hin) hbig ?_
                      intro _
                      exact g1
                · cases hbase
              · cases hbase
            · cases h
        · cases h
    · cases h
  · cases h
end Go.Am
/- AN ABSTRACT MACHINE. Part 13: copy, an array behind a slice. -/
namespace Go.Am
/-- a row into which another is written at a place -/
def putRow (xs : List Int) (o : Nat) (ys : List Int) : List Int := xs.take o ++ (ys ++ xs.drop (o + ys.length))
def intoA (k : IntKind) (H : AHeap) (d : AVal) (new : List Int) : Option (AHeap × List Cond) :=
  match d with
  | .bsl b p o len =>
    match H[b]? with
    | some (.buf t k' xs) => bif decide (k = k') then some (H.set b (.buf t k (putRow xs o new)), [.le new.length len, .le (o + len) xs.length]) else none
    | _ => none
  | .slice (some (b, o)) len cap =>
    match H[b]? with
    | some (.obj t (.arr k' n xs)) => bif decide (k = k') then some (H.set b (.obj t (.arr k n (putRow xs o new))), [.le new.length len, .le (o + len) n, .le n xs.length, .le xs.length n]) else none
    | some (.obj t (.w4 m)) => bif decide (k = .u64) then some (H.set b (.obj t (.arr k 4 (putRow [limb m 0, limb m 1, limb m 2, limb m 3] o new))), [.le new.length len, .le (o + len) 4]) else none
    | _ => none
  | .slice none len _ => bif Nat.beq len 0 then some (H, [.le new.length 0]) else none
  | _ => none
def dlenA : AVal → Option Nat
  | .bsl _ _ _ len => some len
  | .slice _ len _ => some len
  | _ => none
def copyA (P : Program) (H : AHeap) (ts : Array TypeId) (d x : AVal) : Option (AVal × AHeap × List Cond) :=
  match ts[0]? with
  | some dt =>
    match P.underlying dt with
    | some (.slice e) =>
      match kindOf P e, P.info? e with
      | some k, some ti =>
        bif Nat.beq ti.size 1 then
          match rowA k H x, dlenA d with
          | some (n, new, c1), some dl =>
            match intoA k H d (new.take (Nat.min n dl)) with
            | some (H', c2) => some (.int .i64 (Nat.min n dl : Nat), H', c1 ++ c2)
            | none => none
          | _, _ => none
        else none
      | _, _ => none
    | _ => none
  | none => none
theorem putRow_nums (k : IntKind) (xs ys : List Int) (o : Nat) (h : o + ys.length ≤ xs.length) : nums k (putRow xs o ys) = (nums k xs).take o ++ (nums k ys ++ (nums k xs).drop (o + ys.length)) := by
  simp only [putRow, nums_append, nums_take, nums_drop]
theorem putRow_length (xs ys : List Int) (o : Nat) (h : o + ys.length ≤ xs.length) : (putRow xs o ys).length = xs.length := by
  simp [putRow]; omega
theorem intoA_ok {g : Nat} {P : Program} {L : Nat → Loc} {H H' : AHeap} {w : World} (hs : Sim g L H w) {k : IntKind} {d : AVal} {new : List Int} {c : List Cond} (h : intoA k H d new = some (H', c)) (hc : All c) :
    ∃ a len cap w', AVal.conc L d = .slice a len cap ∧ dlenA d = some len ∧ (match a with | some a => storeCells a (nums k new) | none => pure () : Sem Unit).run P w = .ok () w' ∧ Step g L H w L H' w' := by
  unfold intoA at h
  split at h
  · rename_i b p o len
    split at h
    · rename_i t k' xs hb
      cases hd : decide (k = k') with
      | false => simp [hd] at h
      | true =>
        simp only [hd, cond_true, Option.some.injEq, Prod.mk.injEq] at h
        obtain ⟨rfl, rfl⟩ := h
        obtain rfl := of_decide_eq_true hd
        have h1 : new.length ≤ len := hc.1
        have h2 : o + len ≤ xs.length := hc.2.1
        rcases hs.blk b _ hb with ⟨hnil, hx0, hcap0⟩ | ⟨hnn, pre, post, fr, q1, q2, q3, q3', qf⟩
        · subst hx0
          have hn0 : new = [] := List.eq_nil_of_length_eq_zero (by simp at h2; omega)
          subst hn0
          refine ⟨none, len, (L b).cap - o, w, by simp only [AVal.conc, hnil, cond_true], rfl, rfl, ?_⟩
          have e : H.set b (.buf t k (putRow [] o [])) = H := by
            apply List.ext_getElem?
            intro i
            rw [List.getElem?_set]
            split
            · rename_i hi
              subst hi
              rw [if_pos (List.getElem?_eq_some_iff.1 hb).1, hb]
              simp [putRow]
            · rfl
          rw [e]
          exact Step.refl hs
        · by_cases hco : (L b).cap = o
          · have hn0 : new = [] := List.eq_nil_of_length_eq_zero (by omega)
            subst hn0
            refine ⟨some ⟨(L b).blk, (L b).base + (if (L b).cap = o then p else o), none⟩, len, (L b).cap - o, w, by simp only [AVal.conc, hnn, cond_false], rfl, rfl, ?_⟩
            have e : H.set b (.buf t k (putRow xs o [])) = H := by
              apply List.ext_getElem?
              intro i
              rw [List.getElem?_set]
              split
              · rename_i hi
                subst hi
                rw [if_pos (List.getElem?_eq_some_iff.1 hb).1, hb]
                simp [putRow]
              · rfl
            rw [e]
            exact Step.refl hs
          · refine ⟨some ⟨(L b).blk, (L b).base + o, none⟩, len, (L b).cap - o, _, by simp only [AVal.conc, hnn, cond_false, if_neg hco], rfl, storeCells_any P (L b).blk ((L b).base + o) t fr (nums k new) 0 _ w q1 (by rw [show (pre ++ (nums k xs ++ post)).length = (L b).base + (xs.length + post.length) by simp [nums, q2]]; exact qf) (by simp [nums]; omega) (nums_oneCell k new), ?_⟩
            refine Step.write hs hb (by simp [lv, ABlk.live, hnn]) trivial rfl ?_ rfl rfl rfl (by simp) (fun k hk => setRow_other w _ k _ hk)
            have hpl := putRow_length xs new o (by omega)
            refine .inr ⟨hnn, pre, post, fr, ?_, q2, by rw [hpl]; exact q3, by rw [hpl]; exact q3', by rw [hpl]; exact qf⟩
            rw [setRow_heap w _ _ _ t fr q1, putRow_nums k xs new o (by omega), ← q2, nums_length, Nat.add_zero]
            congr 3
            have e1 : (pre ++ (nums k xs ++ post)).take (pre.length + o) = pre ++ (nums k xs).take o := by
              rw [List.take_append, List.take_of_length_le (by omega), show pre.length + o - pre.length = o by omega, List.take_append_of_le_length (by simp [nums]; omega)]
            have e2 : (pre ++ (nums k xs ++ post)).drop (pre.length + o + new.length) = (nums k xs).drop (o + new.length) ++ post := by
              rw [List.drop_append, List.drop_eq_nil_of_le (by omega), List.nil_append, show pre.length + o + new.length - pre.length = o + new.length by omega, List.drop_append_of_le_length (by simp [nums]; omega)]
            rw [e1, e2]
            simp only [List.append_assoc]
    · cases h
  · rename_i b o len cap
    have arrCase : ∀ (t : TypeId) (v : AVal) (n : Nat) (xs : List Int), H[b]? = some (.obj t v) → v.size = n → (AVal.cells L v) = nums k xs → xs.length = n → new.length ≤ len → o + len ≤ n → H' = H.set b (.obj t (.arr k n (putRow xs o new))) →
        ∃ a len' cap' w', AVal.conc L (.slice (some (b, o)) len cap) = .slice a len' cap' ∧ dlenA (.slice (some (b, o)) len cap) = some len' ∧ (match a with | some a => storeCells a (nums k new) | none => pure () : Sem Unit).run P w = .ok () w' ∧ Step g L H w L H' w' := by
      intro t v n xs hb hvs hcells hxl h1 h2 hH
      obtain ⟨hnn, h0, fr, hf, hh⟩ := hs.blk b _ hb
      rw [hcells] at hh
      rw [hvs] at hf
      refine ⟨_, len, _, _, rfl, rfl, storeCells_any P (L b).blk ((L b).base + o) t fr (nums k new) 0 _ w hh (by rw [nums_length, hxl]; exact hf) (by simp [nums]; omega) (nums_oneCell k new), ?_⟩
      rw [hH]
      have hpl := putRow_length xs new o (by omega)
      refine Step.write hs hb (by simp [lv, ABlk.live, hnn]) trivial rfl ?_ rfl rfl rfl (by simp) (fun k hk => setRow_other w _ k _ hk)
      refine ⟨hnn, h0, fr, hf, ?_⟩
      rw [setRow_heap w _ _ _ t fr hh]
      simp only [AVal.cells]
      rw [ints_nums k n _ (by omega), putRow_nums k xs new o (by omega), h0, nums_length]
      simp only [Nat.zero_add, Nat.add_zero]
    split at h
    · rename_i t k' n xs hb
      cases hd : decide (k = k') with
      | false => simp [hd] at h
      | true =>
        simp only [hd, cond_true, Option.some.injEq, Prod.mk.injEq] at h
        obtain ⟨rfl, rfl⟩ := h
        obtain rfl := of_decide_eq_true hd
        have h1 : new.length ≤ len := hc.1
        have h2 : o + len ≤ n := hc.2.1
        have h3 : n ≤ xs.length := hc.2.2.1
        have h4 : xs.length ≤ n := hc.2.2.2.1
        exact arrCase t _ n xs hb rfl (by simp only [AVal.cells]; exact ints_nums k n xs (by omega)) (by omega) h1 h2 rfl
    · rename_i t m hb
      cases hd : decide (k = .u64) with
      | false => simp [hd] at h
      | true =>
        simp only [hd, cond_true, Option.some.injEq, Prod.mk.injEq] at h
        obtain ⟨rfl, rfl⟩ := h
        obtain rfl := of_decide_eq_true hd
        exact arrCase t _ 4 _ hb rfl rfl rfl hc.1 hc.2.1 rfl
    · cases h
  · rename_i len cap
    cases hb : Nat.beq len 0 with
    | false => simp [hb] at h
    | true =>
      simp only [hb, cond_true, Option.some.injEq, Prod.mk.injEq] at h
      obtain ⟨rfl, rfl⟩ := h
      exact ⟨none, len, cap, w, rfl, rfl, rfl, Step.refl hs⟩
  · cases h
theorem lenOf_any {P : Program} {x : Value} {n : Nat} {w : World} (h : (Builtin.lenOf x).run P w = .ok n w) : ∀ w', (Builtin.lenOf x).run P w' = .ok n w' := by
  intro w'
  revert h
  unfold Builtin.lenOf
  cases x <;> simp [stuck]
theorem copyA_ok {g : Nat} {P : Program} {L : Nat → Loc} {H H' : AHeap} {w : World} (hs : Sim g L H w) {ts : Array TypeId} {d x v : AVal} {c : List Cond} (h : copyA P H ts d x = some (v, H', c)) (hc : All c) (ty : TypeId) :
    MemOk g P L H w (Builtin.copy_ ts ty #[AVal.conc L d, AVal.conc L x]) v H' := by
  unfold copyA at h
  split at h
  · rename_i dt h0
    split at h
    · rename_i e hu
      split at h
      · rename_i k ti hk hi
        cases hb : Nat.beq ti.size 1 with
        | false => simp [hb] at h
        | true =>
          simp only [hb, cond_true] at h
          have e1 := Nat.eq_of_beq_eq_true hb
          split at h
          · rename_i n new c1 dl hrow hdl
            split at h
            · rename_i H2 c2 hin
              simp only [Option.some.injEq, Prod.mk.injEq] at h
              obtain ⟨rfl, rfl, rfl⟩ := h
              obtain ⟨hc1, hc2⟩ := (All_append _ _).1 hc
              have R := rowA_ok (P := P) hs hrow hc1
              obtain ⟨a, len, cap, w', g1, g2, g3, g4⟩ := intoA_ok (P := P) hs hin hc2
              have hlen : dl = len := by rw [hdl] at g2; exact Option.some.inj g2
              subst hlen
              refine ⟨L, w', ?_, g4, trivial⟩
              have a0 : (#[AVal.conc L d, AVal.conc L x] : Array Value)[0]? = some (AVal.conc L d) := rfl
              have a1 : (#[AVal.conc L d, AVal.conc L x] : Array Value)[1]? = some (AVal.conc L x) := rfl
              unfold Builtin.copy_
              rw [h0, a0, a1, g1]
              refine run_bindq (run_underlying hu w) ?_
              refine run_bindq R.lenOf ?_
              refine run_bindq (run_sizeOf hi w) ?_
              rw [e1]
              refine run_bindq (R.first _ (Nat.min_le_left n dl)) ?_
              cases a with
              | none =>
                simp only [Sem.run_pure, Result.ok.injEq, true_and] at g3
                subst g3
                rfl
              | some a => exact run_bindp g3 rfl
            · cases h
          · cases h
      · cases h
    · cases h
  · cases h

/- AN ARRAY BEHIND A SLICE -/
def arrPtrA (P : Program) (H : AHeap) (t : TypeId) (x : AVal) : Option (AVal × List Cond) :=
  match P.underlying t, x with
  | some (.array n _), .bsl b p o len =>
    match H[b]? with
    | some (.buf _ _ xs) => some (.ptr (some (b, o)), [.le n len, .lt 0 n, .le (o + len) xs.length])
    | _ => none
  | some (.array n _), .slice (some (b, o)) len _ => some (.ptr (some (b, o)), [.le n len])
  | _, _ => none
theorem arrPtrA_ok {g : Nat} {P : Program} {L : Nat → Loc} {H : AHeap} {w : World} (hs : Sim g L H w) {t : TypeId} {x v : AVal} {c : List Cond} (h : arrPtrA P H t x = some (v, c)) (hc : All c) (hx : AVal.ok (Th H) x) :
    (Instr.arrayAt t (AVal.conc L x)).run P w = .ok (AVal.conc L v) w ∧ AVal.ok (Th H) v := by
  unfold arrPtrA at h
  split at h
  · rename_i n e b p o len hu
    split at h
    · rename_i t' k xs hb
      simp only [Option.some.injEq, Prod.mk.injEq] at h
      obtain ⟨rfl, rfl⟩ := h
      have h1 : n ≤ len := hc.1
      have h2 : 0 < n := hc.2.1
      have h3 : o + len ≤ xs.length := hc.2.2.1
      refine ⟨?_, hx.1⟩
      rcases hs.blk b _ hb with ⟨hnil, hx0, hcap0⟩ | ⟨hnn, pre, post, fr, q1, q2, q3, q3', qf⟩
      · subst hx0; simp at h3; omega
      · have hne : ¬ (L b).cap = o := by omega
        unfold Instr.arrayAt
        refine run_bindq (run_underlying hu w) ?_
        simp only [AVal.conc, hnn, cond_false, if_neg hne, if_neg (show ¬ len < n by omega), Sem.run_pure]
    · cases h
  · rename_i n e b o len cap hu
    simp only [Option.some.injEq, Prod.mk.injEq] at h
    obtain ⟨rfl, rfl⟩ := h
    have h1 : n ≤ len := hc.1
    refine ⟨?_, hx⟩
    unfold Instr.arrayAt
    refine run_bindq (run_underlying hu w) ?_
    simp only [AVal.conc, if_neg (show ¬ len < n by omega), Sem.run_pure]
  · cases h
end Go.Am
/- AN ABSTRACT MACHINE. Part A: arrays of four numbers compared. -/
namespace Go.Am
def four : AVal → Option (IntKind × List Int)
  | .arr k n xs => bif Nat.beq n 4 then some (k, [xs.getD 0 0, xs.getD 1 0, xs.getD 2 0, xs.getD 3 0]) else none
  | .w4 n => some (.u64, [limb n 0, limb n 1, limb n 2, limb n 3])
  | .fe k x => some (.u64, [limb (mform k x) 0, limb (mform k x) 1, limb (mform k x) 2, limb (mform k x) 3])
  | _ => none
def eqIs : List Int → List Int → Bool
  | [], [] => true
  | x :: xs, y :: ys => bif x == y then eqIs xs ys else false
  | _, _ => false
def arrEq (P : Program) (op : BinOp) (t : TypeId) (x y : AVal) : Option AVal :=
  match P.underlying t with
  | some (.array n e) =>
    match P.underlying e, P.info? e, four x, four y with
    | some (.int _), some ti, some (k, xs), some (k', ys) =>
      bif Nat.beq n 4 && (Nat.beq ti.size 1 && (decide (k = k') && !P.eqGuardType P.depth t)) then
        match op with
        | .eql => some (.bool (eqIs xs ys))
        | .neq => some (.bool (!eqIs xs ys))
        | _ => none
      else none
    | _, _, _, _ => none
  | _ => none
theorem four_conc {L : Nat → Loc} {x : AVal} {k : IntKind} {xs : List Int} (h : four x = some (k, xs)) : ∃ a b c d, xs = [a, b, c, d] ∧ AVal.conc L x = .agg #[.int k a, .int k b, .int k c, .int k d] := by
  cases x <;> simp only [four, reduceCtorEq, Option.some.injEq, Prod.mk.injEq] at h
  case arr k n ys =>
    cases hb : Nat.beq n 4 with
    | false => simp [hb] at h
    | true =>
      have := Nat.eq_of_beq_eq_true hb
      subst this
      simp only [Nat.beq_refl, cond_true, Option.some.injEq, Prod.mk.injEq] at h
      obtain ⟨rfl, rfl⟩ := h
      exact ⟨_, _, _, _, rfl, rfl⟩
  case w4 n =>
    obtain ⟨rfl, rfl⟩ := h
    exact ⟨_, _, _, _, rfl, rfl⟩
  case fe k x =>
    obtain ⟨rfl, rfl⟩ := h
    exact ⟨_, _, _, _, rfl, rfl⟩
theorem part4 {P : Program} {e : TypeId} {k0 k : IntKind} (hu : P.underlying e = some (.int k0)) {ti : TypeInfo} (hi : P.info? e = some ti) {a b c d x : Int} {i : Nat} (hx : #[Value.int k a, .int k b, .int k c, .int k d][i]? = some (.int k x)) (w : World) :
    (part e #[.int k a, .int k b, .int k c, .int k d] i).run P w = .ok (.int k x) w := by
  unfold part
  rw [Sem.run_bind, run_isAgg hu w, Result.andThen_ok]
  simp only [tyAgg, Bool.false_eq_true, if_false]
  rw [hx]
  rfl
theorem arrEq_ok {P : Program} {op : BinOp} {t : TypeId} {x y v : AVal} (h : arrEq P op t x y = some v) (w : World) (L : Nat → Loc) (A : Nat → Prop) (ox oy : Operand) :
    ((do eqGuard op t ox oy (AVal.conc L x) (AVal.conc L y); binOp op t (AVal.conc L x) (AVal.conc L y)) : Sem Value).run P w = .ok (AVal.conc L v) w ∧ AVal.ok A v := by
  unfold arrEq at h
  split at h
  case h_2 => cases h
  rename_i n e hu
  split at h
  case h_2 => cases h
  rename_i k0 ti k xs k' ys he hi hx hy
  cases hb : (Nat.beq n 4 && (Nat.beq ti.size 1 && (decide (k = k') && !P.eqGuardType P.depth t))) with
  | false => simp [hb] at h
  | true =>
  simp only [hb, cond_true] at h
  simp only [Bool.and_eq_true, decide_eq_true_eq, Bool.not_eq_true'] at hb
  obtain ⟨hn, hs, rfl, hg⟩ := hb
  obtain rfl := Nat.eq_of_beq_eq_true hn
  have hs := Nat.eq_of_beq_eq_true hs
  obtain ⟨a, b, c, d, rfl, hxc⟩ := four_conc (L := L) hx
  obtain ⟨a', b', c', d', rfl, hyc⟩ := four_conc (L := L) hy
  have key : (Op.equal t (AVal.conc L x) (AVal.conc L y)).run P w = .ok (eqIs [a, b, c, d] [a', b', c', d']) w := by
    rw [hxc, hyc]
    show (Op.equalIn (9999 + 1) t _ _).run P w = _
    unfold Op.equalIn
    refine run_bindq (run_underlying hu w) ?_
    simp only
    refine run_bindq (run_sizeOf hi w) ?_
    simp only [Std.Legacy.Range.forIn_eq_forIn_range', Std.Legacy.Range.size, Nat.sub_zero, Nat.add_sub_cancel, Nat.div_one, List.range'_succ, List.range'_zero, List.forIn_cons, List.forIn_nil, hs, Nat.mul_one, Nat.zero_add]
    have q : ∀ (i : Nat) (u v : Int) {β : Type} (A B : β), #[Value.int k a, .int k b, .int k c, .int k d][i]? = some (.int k u) → #[Value.int k a', .int k b', .int k c', .int k d'][i]? = some (.int k v) →
        ((do
          let x ← part e #[.int k a, .int k b, .int k c, .int k d] i
          let y ← part e #[.int k a', .int k b', .int k c', .int k d'] i
          let r ← Op.equalIn 9999 e x y
          if (!r) = true then pure A else pure B) : Sem β).run P w = .ok (bif u == v then B else A) w := by
      intro i u v β A B h1 h2
      refine run_bindq (part4 he hi h1 w) ?_
      refine run_bindq (part4 he hi h2 w) ?_
      refine run_bindq (run_equalIn_int w 9998 e k k0 u v he) ?_
      cases (u == v) <;> rfl
    have q0 := fun A B => q 0 a a' (β := ForInStep (Option Bool × Unit)) A B rfl rfl
    have q1 := fun A B => q 1 b b' (β := ForInStep (Option Bool × Unit)) A B rfl rfl
    have q2 := fun A B => q 2 c c' (β := ForInStep (Option Bool × Unit)) A B rfl rfl
    have q3 := fun A B => q 3 d d' (β := ForInStep (Option Bool × Unit)) A B rfl rfl
    simp only [eqIs]
    cases h0 : (a == a') with
    | false =>
      simp only [h0, cond_false] at q0
      exact run_bindq (run_bindq (q0 _ _) rfl) rfl
    | true =>
    simp only [h0, cond_true] at q0 ⊢
    cases h1 : (b == b') with
    | false =>
      simp only [h1, cond_false] at q1
      exact run_bindq (run_bindq (q0 _ _) (run_bindq (q1 _ _) rfl)) rfl
    | true =>
    simp only [h1, cond_true] at q1 ⊢
    cases h2 : (c == c') with
    | false =>
      simp only [h2, cond_false] at q2
      exact run_bindq (run_bindq (q0 _ _) (run_bindq (q1 _ _) (run_bindq (q2 _ _) rfl))) rfl
    | true =>
    simp only [h2, cond_true] at q2 ⊢
    cases h3 : (d == d') with
    | false =>
      simp only [h3, cond_false] at q3
      exact run_bindq (run_bindq (q0 _ _) (run_bindq (q1 _ _) (run_bindq (q2 _ _) (run_bindq (q3 _ _) rfl)))) rfl
    | true =>
      simp only [h3, cond_true] at q3
      exact run_bindq (run_bindq (q0 _ _) (run_bindq (q1 _ _) (run_bindq (q2 _ _) (run_bindq (q3 _ _) rfl)))) rfl
  have hgd : op = .eql ∨ op = .neq → (eqGuard op t ox oy (AVal.conc L x) (AVal.conc L y)).run P w = .ok () w := by
    intro ho
    rw [hxc, hyc]
    unfold eqGuard
    rcases ho with rfl | rfl <;> simp [hg]
  cases op <;> simp only [reduceCtorEq, Option.some.injEq] at h
  case eql =>
    subst h
    refine ⟨run_bindq (hgd (.inl rfl)) ?_, trivial⟩
    rw [hxc, hyc] at key ⊢
    exact run_bindq key rfl
  case neq =>
    subst h
    refine ⟨run_bindq (hgd (.inr rfl)) ?_, trivial⟩
    rw [hxc, hyc] at key ⊢
    exact run_bindq key rfl
end Go.Am
/- AN ABSTRACT MACHINE. Part 14: one function for all operations that call nothing. -/
namespace Go.Am
/-- a slice over a row is nil only if the row is empty -/
def bslEq (P : Program) (H : AHeap) (op : BinOp) (t : TypeId) (x y : AVal) : Option (AVal × List Cond) :=
  match P.underlying t with
  | some (.slice _) =>
    match x, y with
    | .bsl b _ _ _, .slice none _ _ | .slice none _ _, .bsl b _ _ _ =>
      match H[b]? with
      | some (.buf _ _ xs) =>
        match op with
        | .eql => some (.bool false, [.lt 0 xs.length])
        | .neq => some (.bool true, [.lt 0 xs.length])
        | _ => none
      | _ => none
    | _, _ => none
  | _ => none
theorem Sim.notNil {g : Nat} {L : Nat → Loc} {H : AHeap} {w : World} (hs : Sim g L H w) {b : Nat} {t : TypeId} {k : IntKind} {xs : List Int} (hb : H[b]? = some (.buf t k xs)) (h : 0 < xs.length) : (L b).nil = false := by
  rcases hs.blk b _ hb with ⟨_, h0, _⟩ | ⟨h1, _⟩
  · rw [h0] at h; cases h
  · exact h1
theorem bslEq_ok {g : Nat} {P : Program} {L : Nat → Loc} {H : AHeap} {w : World} (hs : Sim g L H w) {op : BinOp} {t : TypeId} {x y v : AVal} {c : List Cond} (h : bslEq P H op t x y = some (v, c)) (hc : All c) (ox oy : Operand) (A : Nat → Prop) :
    ((do eqGuard op t ox oy (AVal.conc L x) (AVal.conc L y); binOp op t (AVal.conc L x) (AVal.conc L y)) : Sem Value).run P w = .ok (AVal.conc L v) w ∧ AVal.ok A v := by
  unfold bslEq at h
  split at h
  · rename_i e hu
    have key : ∀ (a a' : Addr) (l l' c c' : Nat), (Op.equal t (.slice (some a) l c) (.slice none l' c')).run P w = .ok false w ∧ (Op.equal t (.slice none l' c') (.slice (some a) l c)).run P w = .ok false w := by
      intro a a' l l' c c'
      have k1 : ∀ x y : Value, ∀ r, (Op.equalIn (9999 + 1) t x y).run P w = r → (Op.equal t x y).run P w = r := fun x y r h => h
      constructor
      · refine k1 _ _ _ ?_
        rw [Op.equalIn, Sem.run_bind, run_underlying hu, Result.andThen_ok]
        rfl
      · refine k1 _ _ _ ?_
        rw [Op.equalIn, Sem.run_bind, run_underlying hu, Result.andThen_ok]
        rfl
    split at h
    · rename_i b p o l l' c'
      split at h
      · rename_i t' k xs hb
        split at h
        · simp only [Option.some.injEq, Prod.mk.injEq] at h
          obtain ⟨rfl, rfl⟩ := h
          have hn := hs.notNil hb hc.1
          refine ⟨?_, trivial⟩
          simp only [AVal.conc, hn, cond_false]
          refine run_bindq (v := ()) rfl ?_
          exact run_bindq ((key _ ⟨0, 0, none⟩ _ _ _ _).1) rfl
        · simp only [Option.some.injEq, Prod.mk.injEq] at h
          obtain ⟨rfl, rfl⟩ := h
          have hn := hs.notNil hb hc.1
          refine ⟨?_, trivial⟩
          simp only [AVal.conc, hn, cond_false]
          refine run_bindq (v := ()) rfl ?_
          exact run_bindq ((key _ ⟨0, 0, none⟩ _ _ _ _).1) rfl
        · cases h
      · cases h
    · rename_i l' c' b p o l
      split at h
      · rename_i t' k xs hb
        split at h
        · simp only [Option.some.injEq, Prod.mk.injEq] at h
          obtain ⟨rfl, rfl⟩ := h
          have hn := hs.notNil hb hc.1
          refine ⟨?_, trivial⟩
          simp only [AVal.conc, hn, cond_false]
          refine run_bindq (v := ()) rfl ?_
          exact run_bindq ((key _ ⟨0, 0, none⟩ _ _ _ _).2) rfl
        · simp only [Option.some.injEq, Prod.mk.injEq] at h
          obtain ⟨rfl, rfl⟩ := h
          have hn := hs.notNil hb hc.1
          refine ⟨?_, trivial⟩
          simp only [AVal.conc, hn, cond_false]
          refine run_bindq (v := ()) rfl ?_
          exact run_bindq ((key _ ⟨0, 0, none⟩ _ _ _ _).2) rfl
        · cases h
      · cases h
    · cases h
  · cases h

/- ALL OF THEM -/
def pureR (H : AHeap) : Option AVal → Option (AVal × AHeap × List Cond)
  | some v => some (v, H, [])
  | none => none
def condR (H : AHeap) : Option (AVal × List Cond) → Option (AVal × AHeap × List Cond)
  | some (v, c) => some (v, H, c)
  | none => none
def memR : Option (AVal × AHeap) → Option (AVal × AHeap × List Cond)
  | some (v, H) => some (v, H, [])
  | none => none
def zipP (ps : Array (Nat × Operand)) (xs : List AVal) : List (Nat × AVal) := (ps.toList.map (·.1)).zip xs
def builtinV (P : Program) (H : AHeap) (b : Builtin) (ts : Array TypeId) (xs : List AVal) : Option (AVal × AHeap × List Cond) :=
  match b, xs with
  | .len, [x] => match ts[0]? with
    | some t => pureR H (lenA P t x)
    | none => none
  | .append, [s, x] => appendA P H ts s x
  | .copy, [d, x] => copyA P H ts d x
  | _, _ => none
def opV (P : Program) (G : Globs) (H : AHeap) (op : Op) (xs : List AVal) : Option (AVal × AHeap × List Cond) :=
  match op, xs with
  | .move _, [x] => some (x, H, [])
  | .assign _, [x] => some (x, H, [])
  | .pick _ _ _, [c, a, b] => pureR H (pickA c a b)
  | .alloc t, [] => memR (allocA P H t)
  | .box t _, [x] => memR (some (boxA H t x))
  | .build t ps, xs => bif Nat.beq ps.size xs.length then condR H (buildA P t (zipP ps xs)) else none
  | .buildSlice t n ps, xs => bif Nat.beq ps.size xs.length then buildSliceA P H t n (zipP ps xs) else none
  | .load t _, [a] => condR H (loadA P G H t a)
  | .store t _ _, [a, x] => match storeA P H t a x with
    | some (H', c) => some (undefA, H', c)
    | none => none
  | .nilCheck _, [x] => pureR H (nilCheckA x)
  | .binOp op t _ _ _, [x, y] => match bslEq P H op t x y with
    | some (v, c) => some (v, H, c)
    | none => match arrEq P op t x y with
      | some v => some (v, H, [])
      | none => condR H (binA P op t x y)
  | .unOp op _ _, [x] => pureR H (unA op x)
  | .convert s d _, [x] => match convA P s d x with
    | some v => some (v, H, [])
    | none => match toBytesA P H s d x with
      | some (v, H') => some (v, H', [])
      | none => condR H (toStrA P H s d x)
  | .sliceToArrayPointer t _, [x] => condR H (arrPtrA P H t x)
  | .makeInterface t _, [x] => pureR H (ifaceA P t x)
  | .makeFunc (.func f) first _, xs => bif Nat.beq first.size 0 then some (.func f xs, H, []) else none
  | .makeSlice t _ _, [l, c] => makeSliceA P H t l c
  | .slice t _ none none none, [x] => condR H (sliceA P H t x none none)
  | .slice t _ (some _) none none, [x, l] => condR H (sliceA P H t x (some l) none)
  | .slice t _ none (some _) none, [x, h] => condR H (sliceA P H t x none (some h))
  | .slice t _ (some _) (some _) none, [x, l, h] => condR H (sliceA P H t x (some l) (some h))
  | .fieldAddr t _ f, [x] => pureR H (fieldAddrA P t x f)
  | .field t _ f, [x] => condR H (fieldA P t x f)
  | .indexAddr t _ _, [x, i] => condR H (indexAddrA P H t x i)
  | .index t _ _, [x, i] => condR H (indexA P t x i)
  | .extract _ i, [x] => pureR H (extractA x i)
  | .call ⟨.builtin b, _, ts⟩, xs => builtinV P H b ts xs
  | _, _ => none

def Goes (g : Nat) (P : Program) (L : Nat → Loc) (H : AHeap) (w : World) (s : Sem Next) (v : AVal) (H' : AHeap) : Prop :=
  ∃ L' w' nx, s.run P w = .ok nx w' ∧ (nx = .value (AVal.conc L' v) ∨ nx = .skip ∧ v = undefA) ∧ Step g L H w L' H' w' ∧ AVal.ok (Th H') v
theorem Goes.val {g : Nat} {P : Program} {L : Nat → Loc} {H : AHeap} {w : World} (hs : Sim g L H w) {s : Sem Value} {v : AVal} (h : s.run P w = .ok (AVal.conc L v) w ∧ AVal.ok (Th H) v) : Goes g P L H w (do pure (.value (← s))) v H :=
  ⟨L, w, _, run_bindq h.1 rfl, .inl rfl, Step.refl hs, h.2⟩
theorem Goes.mem {g : Nat} {P : Program} {L : Nat → Loc} {H H' : AHeap} {w : World} {s : Sem Value} {v : AVal} (h : MemOk g P L H w s v H') : Goes g P L H w (do pure (.value (← s))) v H' := by
  obtain ⟨L', w', h1, h2, h3⟩ := h
  exact ⟨L', w', _, run_bindp h1 rfl, .inl rfl, h2, h3⟩
theorem pureR_some {H H' : AHeap} {o : Option AVal} {v : AVal} {c : List Cond} (h : pureR H o = some (v, H', c)) : o = some v ∧ H = H' := by
  unfold pureR at h
  split at h
  · simp only [Option.some.injEq, Prod.mk.injEq] at h
    exact ⟨by rw [h.1], h.2.1⟩
  · cases h
theorem condR_some {H H' : AHeap} {o : Option (AVal × List Cond)} {v : AVal} {c : List Cond} (h : condR H o = some (v, H', c)) : o = some (v, c) ∧ H = H' := by
  unfold condR at h
  split at h
  · simp only [Option.some.injEq, Prod.mk.injEq] at h
    exact ⟨by rw [h.1, h.2.2], h.2.1⟩
  · cases h
theorem memR_some {H' : AHeap} {o : Option (AVal × AHeap)} {v : AVal} {c : List Cond} (h : memR o = some (v, H', c)) : o = some (v, H') := by
  unfold memR at h
  split at h
  · simp only [Option.some.injEq, Prod.mk.injEq] at h
    rw [h.1, h.2.1]
  · cases h
theorem zipP_map (L : Nat → Loc) (ps : Array (Nat × Operand)) (ρ : Operand → Value) (xs : List AVal) (h : (ps.toList.map (·.2)).map ρ = AVal.concs L xs) :
    (ps.map fun (i, x) => (i, ρ x)) = ((zipP ps xs).map fun p => (p.1, AVal.conc L p.2)).toArray := by
  apply Array.ext'
  simp only [Array.toList_map]
  unfold zipP
  rw [AVal.concs_map] at h
  generalize ps.toList = l at h
  induction l generalizing xs with
  | nil => simp
  | cons p l ih =>
    cases xs with
    | nil => simp at h
    | cons x xs =>
      simp only [List.map_cons, List.cons.injEq] at h
      simp only [List.map_cons, List.zip_cons_cons, List.cons.injEq]
      exact ⟨by rw [h.1], ih xs h.2⟩
theorem zipP_mem {A : Nat → Prop} {ps : Array (Nat × Operand)} {xs : List AVal} (h : AVal.oks A xs) : ∀ p ∈ zipP ps xs, AVal.ok A p.2 := by
  intro p hp
  exact (AVal.oks_iff A xs).1 h p.2 (List.of_mem_zip hp).2
theorem builtinV_ok {g : Nat} {P : Program} {L : Nat → Loc} {H H' : AHeap} {w : World} (hs : Sim g L H w) {b : Builtin} {ts : Array TypeId} {xs : List AVal} {v : AVal} {c : List Cond} (hok : AVal.oks (Th H) xs) (h : builtinV P H b ts xs = some (v, H', c)) (hc : All c) (ty : TypeId) (consts : Array Bool) :
    Goes g P L H w (builtin b ts ty consts (AVal.concs L xs).toArray) v H' := by
  unfold builtinV at h
  split at h
  · rename_i x
    split at h
    · rename_i t ht
      obtain ⟨h1, rfl⟩ := pureR_some h
      exact Goes.val hs (lenA_ok h1 w L (Th H) ts ht ty)
    · cases h
  · rename_i s x
    exact Goes.mem (appendA_ok hs h hc hok.1 ty)
  · rename_i d x
    exact Goes.mem (copyA_ok hs h hc ty)
  · cases h
theorem opV_ok {g : Nat} {P : Program} {G : Globs} {L : Nat → Loc} {H H' : AHeap} {w : World} (hs : Sim g L H w) (hg : GlobsOk G g w) {o : Oper} {ρ : Operand → Value} {xs : List AVal} (hxs : o.op.operands.toList.map ρ = AVal.concs L xs) (hok : AVal.oks (Th H) xs)
    {v : AVal} {c : List Cond} (h : opV P G H o.op xs = some (v, H', c)) (hc : All c) : Goes g P L H w (execOp ρ o) v H' := by
  obtain ⟨dst, op, type, pos, after, guard⟩ := o
  simp only at h hxs
  unfold opV at h
  split at h
  case h_1 =>
    simp only [Op.operands, AVal.concs, List.map_cons, List.map_nil, List.cons.injEq, and_true] at hxs
    simp only [Option.some.injEq, Prod.mk.injEq] at h
    obtain ⟨rfl, rfl, rfl⟩ := h
    exact ⟨L, w, _, rfl, .inl (by rw [hxs]), Step.refl hs, hok.1⟩
  case h_2 =>
    simp only [Op.operands, AVal.concs, List.map_cons, List.map_nil, List.cons.injEq, and_true] at hxs
    simp only [Option.some.injEq, Prod.mk.injEq] at h
    obtain ⟨rfl, rfl, rfl⟩ := h
    exact ⟨L, w, _, rfl, .inl (by rw [hxs]), Step.refl hs, hok.1⟩
  case h_3 =>
    simp only [Op.operands, AVal.concs, List.map_cons, List.map_nil, List.cons.injEq, and_true] at hxs
    obtain ⟨h1, rfl⟩ := pureR_some h
    have := pickA_ok h1 P w L (Th H) hok.2.1 hok.2.2.1
    refine ⟨L, w, _, ?_, .inl rfl, Step.refl hs, this.2⟩
    simp only [execOp, hxs.1, hxs.2.1, hxs.2.2]
    exact this.1
  case h_4 => exact Goes.mem (allocA_ok hs (memR_some h))
  case h_5 t y x =>
    simp only [Op.operands, AVal.concs, List.map_cons, List.map_nil, List.cons.injEq, and_true] at hxs
    have h1 := memR_some h
    simp only [Option.some.injEq] at h1
    have := boxA_ok (P := P) hs (t := t) hok.1
    rw [h1] at this
    simp only [execOp, hxs]
    exact Goes.mem this
  case h_6 t ps =>
    cases hb : Nat.beq ps.size xs.length with
    | false => simp [hb] at h
    | true =>
      simp only [hb, cond_true] at h
      simp only [Op.operands] at hxs
      obtain ⟨h1, rfl⟩ := condR_some h
      simp only [execOp, zipP_map L ps ρ xs (by simpa using hxs)]
      exact Goes.val hs (buildA_ok h1 hc L (Th H) (zipP_mem hok) w)
  case h_7 t n ps =>
    cases hb : Nat.beq ps.size xs.length with
    | false => simp [hb] at h
    | true =>
      simp only [hb, cond_true] at h
      simp only [Op.operands] at hxs
      simp only [execOp, zipP_map L ps ρ xs (by simpa using hxs)]
      exact Goes.mem (buildSliceA_ok hs h hc (zipP_mem hok))
  case h_8 =>
    simp only [Op.operands, AVal.concs, List.map_cons, List.map_nil, List.cons.injEq, and_true] at hxs
    obtain ⟨h1, rfl⟩ := condR_some h
    simp only [execOp, hxs]
    exact Goes.val hs (loadA_ok hs hg h1 hc)
  case h_9 =>
    simp only [Op.operands, AVal.concs, List.map_cons, List.map_nil, List.cons.injEq, and_true] at hxs
    split at h
    · rename_i H2 c2 h1
      simp only [Option.some.injEq, Prod.mk.injEq] at h
      obtain ⟨rfl, rfl, rfl⟩ := h
      obtain ⟨w', g1, g2⟩ := storeA_ok hs h1 hc hok.2.1
      simp only [execOp, hxs.1, hxs.2]
      exact ⟨L, w', .skip, run_bindp g1 rfl, .inr ⟨rfl, rfl⟩, g2, trivial⟩
    · cases h
  case h_10 =>
    simp only [Op.operands, AVal.concs, List.map_cons, List.map_nil, List.cons.injEq, and_true] at hxs
    obtain ⟨h1, rfl⟩ := pureR_some h
    have := nilCheckA_ok (o := ⟨dst, _, type, pos, after, guard⟩) (ρ := ρ) rfl h1 P w L (Th H) hok.1 hxs
    exact ⟨L, w, _, this.1, .inl rfl, Step.refl hs, this.2⟩
  case h_11 =>
    simp only [Op.operands, AVal.concs, List.map_cons, List.map_nil, List.cons.injEq, and_true] at hxs
    simp only [execOp, hxs.1, hxs.2]
    split at h
    · rename_i v2 c2 h1
      simp only [Option.some.injEq, Prod.mk.injEq] at h
      obtain ⟨rfl, rfl, rfl⟩ := h
      exact Goes.val hs (bslEq_ok hs h1 hc _ _ _)
    · split at h
      · rename_i v2 h1
        simp only [Option.some.injEq, Prod.mk.injEq] at h
        obtain ⟨rfl, rfl, rfl⟩ := h
        exact Goes.val hs (arrEq_ok h1 w L _ _ _)
      · obtain ⟨h1, rfl⟩ := condR_some h
        exact Goes.val hs (binA_ok h1 hc w L _ _ _)
  case h_12 =>
    simp only [Op.operands, AVal.concs, List.map_cons, List.map_nil, List.cons.injEq, and_true] at hxs
    obtain ⟨h1, rfl⟩ := pureR_some h
    simp only [execOp, hxs]
    exact Goes.val hs (unA_ok h1 P w L _)
  case h_13 =>
    simp only [Op.operands, AVal.concs, List.map_cons, List.map_nil, List.cons.injEq, and_true] at hxs
    simp only [execOp, hxs]
    split at h
    · rename_i v2 h1
      simp only [Option.some.injEq, Prod.mk.injEq] at h
      obtain ⟨rfl, rfl, rfl⟩ := h
      exact Goes.val hs (convA_ok h1 w L _)
    · split at h
      · rename_i v2 H2 h1
        simp only [Option.some.injEq, Prod.mk.injEq] at h
        obtain ⟨rfl, rfl, rfl⟩ := h
        exact Goes.mem (toBytesA_ok hs h1)
      · obtain ⟨h1, rfl⟩ := condR_some h
        exact Goes.val hs (toStrA_ok hs h1 hc _)
  case h_14 =>
    simp only [Op.operands, AVal.concs, List.map_cons, List.map_nil, List.cons.injEq, and_true] at hxs
    obtain ⟨h1, rfl⟩ := condR_some h
    simp only [execOp, hxs]
    exact Goes.val hs (arrPtrA_ok hs h1 hc hok.1)
  case h_15 =>
    simp only [Op.operands, AVal.concs, List.map_cons, List.map_nil, List.cons.injEq, and_true] at hxs
    obtain ⟨h1, rfl⟩ := pureR_some h
    simp only [execOp, hxs]
    exact Goes.val hs (ifaceA_ok h1 w L _ hok.1)
  case h_16 f first cap =>
    cases hb : Nat.beq first.size 0 with
    | false => simp [hb] at h
    | true =>
      have hb := Nat.eq_of_beq_eq_true hb
      obtain rfl : first = #[] := Array.eq_empty_of_size_eq_zero hb
      simp only [List.size_toArray, List.length_nil, Nat.beq_refl, cond_true, Option.some.injEq, Prod.mk.injEq] at h
      obtain ⟨rfl, rfl, rfl⟩ := h
      simp only [Op.operands, Array.empty_append] at hxs
      refine ⟨L, w, _, rfl, .inl ?_, Step.refl hs, hok⟩
      simp only [AVal.conc]
      have e : cap.map ρ = (AVal.concs L xs).toArray := by
        apply Array.ext'
        simpa using hxs
      rw [e, show (#[] : Array Operand).map ρ = #[] by simp]
  case h_17 =>
    simp only [Op.operands, AVal.concs, List.map_cons, List.map_nil, List.cons.injEq, and_true] at hxs
    simp only [execOp, hxs.1, hxs.2]
    exact Goes.mem (makeSliceA_ok hs h hc)
  case h_18 =>
    simp [Op.operands, AVal.concs] at hxs
    obtain ⟨h1, rfl⟩ := condR_some h
    simp only [execOp, hxs]
    exact Goes.val hs (sliceA_ok hs h1 hc hok.1)
  case h_19 =>
    simp [Op.operands, AVal.concs] at hxs
    obtain ⟨h1, rfl⟩ := condR_some h
    simp only [execOp, hxs.1]
    have := Goes.val hs (sliceA_ok hs h1 hc hok.1)
    simpa [hxs.2] using this
  case h_20 =>
    simp [Op.operands, AVal.concs] at hxs
    obtain ⟨h1, rfl⟩ := condR_some h
    simp only [execOp, hxs.1]
    have := Goes.val hs (sliceA_ok hs h1 hc hok.1)
    simpa [hxs.2] using this
  case h_21 =>
    simp [Op.operands, AVal.concs] at hxs
    obtain ⟨h1, rfl⟩ := condR_some h
    simp only [execOp, hxs.1]
    have := Goes.val hs (sliceA_ok hs h1 hc hok.1)
    simpa [hxs.2.1, hxs.2.2] using this
  case h_22 =>
    simp only [Op.operands, AVal.concs, List.map_cons, List.map_nil, List.cons.injEq, and_true] at hxs
    obtain ⟨h1, rfl⟩ := pureR_some h
    simp only [execOp, hxs]
    exact Goes.val hs (fieldAddrA_ok h1 L _ hok.1 w)
  case h_23 =>
    simp only [Op.operands, AVal.concs, List.map_cons, List.map_nil, List.cons.injEq, and_true] at hxs
    obtain ⟨h1, rfl⟩ := condR_some h
    simp only [execOp, hxs]
    exact Goes.val hs (fieldA_ok h1 hc w L _ hok.1)
  case h_24 =>
    simp only [Op.operands, AVal.concs, List.map_cons, List.map_nil, List.cons.injEq, and_true] at hxs
    obtain ⟨h1, rfl⟩ := condR_some h
    simp only [execOp, hxs.1, hxs.2]
    exact Goes.val hs (indexAddrA_ok hs h1 hc hok.1)
  case h_25 =>
    simp only [Op.operands, AVal.concs, List.map_cons, List.map_nil, List.cons.injEq, and_true] at hxs
    obtain ⟨h1, rfl⟩ := condR_some h
    simp only [execOp, hxs.1, hxs.2]
    exact Goes.val hs (indexA_ok h1 hc w L _ hok.1)
  case h_26 =>
    simp only [Op.operands, AVal.concs, List.map_cons, List.map_nil, List.cons.injEq, and_true] at hxs
    obtain ⟨h1, rfl⟩ := pureR_some h
    simp only [execOp, hxs]
    exact Goes.val hs (extractA_ok h1 P w L _ hok.1)
  case h_27 b args ts =>
    simp only [Op.operands, Call.operands, Array.empty_append] at hxs
    have e : args.map ρ = (AVal.concs L xs).toArray := by
      apply Array.ext'
      simpa using hxs
    show Goes g P L H w (do let d ← resolve ρ _ type; invoke d.target d.args) v H'
    unfold resolve
    simp only [e]
    exact builtinV_ok hs hok h hc type _
  case h_28 => cases h
end Go.Am
