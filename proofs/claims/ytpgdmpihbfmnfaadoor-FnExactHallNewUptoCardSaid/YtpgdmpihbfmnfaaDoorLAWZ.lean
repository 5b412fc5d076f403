/- For every reading of bulk at most 1048576 the law FnExactHallNew returns true, and its argument reads as before; the tables that its row lists are the program's own. -/
import Derived.Test.YtpgdmpihbfmnfaaDoorLAW
import Derived.Test.YtpgdmpihbfmnfaaDoorHA
import Derived.Test.YtpgdmpihbfmnfaaDoorE3
import Derived.Test.YtpgdmpihbfmnfaaDoorCards
import Derived.Test.YtpgdmpihbfmnfaaDoorTie
import Derived.Deep.DeepHandedRow
import Derived.Lib.LaidTab
set_option linter.unusedSimpArgs false
set_option linter.unusedVariables false
set_option maxRecDepth 100000
namespace Go.Proofs.YtpgdmpihbfmnfaaDoor
open Go.ChangeShapes Go.WideShapes Go.ChangeAt Go.RowKit Go.Eng
theorem own : ownKnob Tryd.prog.godebug = none := by kernel_rfl
theorem laidOut : laidOutB Tryd.prog = true := by kernel_rfl
theorem bk_upto {H : Type} : Bk (H := H) Rows.uptoBulk Rows.uptoBulkAll where
  str := fun l => by simp [Rows.uptoBulk]
  lit := fun l => by cases l <;> simp [Rows.uptoBulk]
  nil := by simp [Rows.uptoBulk]
  slice := fun e s => by simp [Rows.uptoBulk]
  agg := fun p => by simp [Rows.uptoBulk]
  cons := fun d l => by simp [Rows.uptoBulkAll]
theorem ct_rings : ctOf Tryd.prog 30 22 = some [.sl XRing.tys] := by kernel_rfl
theorem contract (H : Type) (enc : TypeId × Value → H) (W : World) (base : Nat) (args : Array Value) (ds gs : List (DataW H)) (before : List MemPlace)
    (hval : ∀ (j : Nat) t v, Tryd.f3.params[j]? = some t → args[j]? = some v → Value.okWide Tryd.prog W .any base t v)
    (hW : DataW.Whole enc Tryd.prog Tryd.f3.params.toList Rows.fnExactHallNewSpec.vars false W args.toList ds gs before) (hk : Rows.uptoSmall H (ds ++ gs) = true) :
    Calls Tryd.prog 3 args W fun e W' => ∃ v, e = .returned v ∧ Rows.fnExactHallNewSpec.post enc Tryd.prog Tryd.f3 false true false false W args v W' := by
  have hW' := hW
  obtain ⟨p, q, hA0, hV, rfl, hfz, hnd⟩ := hW
  have hA : DataW.TrodAll enc Tryd.prog W 0 (fun _ => true) true Tryd.f3.params.toList args.toList ds p := hA0
  rw [Tryd.params3] at hA hval
  obtain ⟨v0, vs0, d0, ds0, p0, q0, hargs, rfl, rfl, h0, r0⟩ := trodAll_cons hA
  obtain ⟨rfl, rfl, rfl⟩ := trodAll_nil r0
  obtain rfl : args = #[v0] := by cases args; simp_all
  obtain ⟨rfl, rfl⟩ := trodVars_none hV
  have h22 := hval 0 22 v0 rfl rfl
  have hbulk : Rows.uptoBulkAll [d0] ≤ 1048576 := by simpa [Rows.uptoSmall] using hk
  simp only [Rows.uptoBulkAll] at hbulk
  have h0k := h0
  obtain ⟨fuel, hf⟩ := h0
  have hcells : v0.cells.toList = [v0] := by
    have h22' : Cell.okWide Tryd.prog W .any base 22 v0 := by simpa only [Value.okWide, Tryd.underlying22] using h22
    unfold Cell.okWide at h22'
    simp only [Tryd.underlying22] at h22'
    unfold Cell.ok at h22'
    simp only [Tryd.underlying22] at h22'
    cases v0 <;> first | rfl | exact h22'.elim
  rw [hcells] at hf
  have hri := trod_row (P := Tryd.prog) bk_upto fuel 30 22 [v0] (d0, p0) [.sl XRing.tys] hf ct_rings (by simp only; omega)
  obtain ⟨t, hty, hbk, hrel⟩ := one_rel hri
  simp only [tyT] at hty
  obtain ⟨rows, rfl, hrows⟩ := hty
  obtain ⟨rs, rfl⟩ := of_list of_Ring rows hrows
  have hms := bk_list bk_Ring rs
  have hm : msL XRing.ms rs ≤ 1048576 := by simp only [bkT] at hbk; omega
  refine (law_calls (t_law rs hm) rfl fun i a ha => ?_).mono fun e W' ⟨he, hb⟩ => ?_
  · match i, ha with
    | 0, ha => simp only [List.getElem?_cons_zero, Option.some.injEq] at ha; subst ha; exact hrel _ _ 0 rfl
    | i + 1, ha => simp at ha
  · subst he
    have hlt : ∀ x ∈ p0, x.block < W.heap.size := fun x hx => hW'.lt x (by simp [hx])
    refine ⟨_, rfl, law_post hW' (pa := p0 ++ []) (pv := []) (fun b => ?_) ?_ rfl (by simp) hb⟩
    · exact trodAll_cons_mk (shut_bool Tryd.underlying4 _) trodAll_mk0
    · exact trodAll_cons_mk (Below.trod laidOut (by kernel_rfl) (of_decide_eq_true (by kernel_rfl)) h0k hb hlt) trodAll_mk0
/-- The cells of a table's datum. -/
def tabV : DataW Unit → Value
  | .lit (.int k n) => .int k n
  | _ => .int .i64 0
def tabCells : DataW Unit → Array Value
  | .agg l => (l.map tabV).toArray
  | _ => #[]
def putTab (l : DataW Unit) : Obj → Obj
  | .cells _ t frozen => .cells (tabCells l) t frozen
  | o => o
noncomputable def laidWorld (os : Os) : World :=
  { World.holding Tryd.prog os ⟨#[], #[], []⟩ with heap := (((World.holding Tryd.prog os ⟨#[], #[], []⟩).heap.modify 0 (putTab Rows.laid_internal_strconv_uint64pow10)).modify 1 (putTab Rows.laid_math_bits_deBruijn32tab)).modify 2 (putTab Rows.laid_math_bits_deBruijn64tab) }
theorem laid_met (os : Os) : laidMet Tryd.prog Rows.fnExactHallNewUptoRow.laid ((laidWorld os).forCall (fun _ _ => 0) ⟨#[], #[.slice none 0 0], []⟩).memory :=
  laidMet_of_run' 8 (by kernel_rfl) (by kernel_rfl)
theorem reads (os : Os) {H : Type} (enc : TypeId × Value → H) : ∃ places, DataW.whole enc Tryd.prog ((laidWorld os).forCall (fun _ _ => 0) ⟨#[], #[.slice none 0 0], []⟩).memory Tryd.f3.params.toList Rows.fnExactHallNewSpec.vars false #[Value.slice none 0 0].toList 8 = some ([.nil], [], places) :=
  ⟨[], by kernel_rfl⟩
set_option maxRecDepth 100000 in
theorem lifted (os : Os) (started : os.Started) (H : Type) (enc : TypeId × Value → H) (F : Stop.Interp) :
    ReturnsInHanded {} Tryd.checked os 3 .any ((Rows.OpenSpec.upto Rows.fnExactHallNewSpec).preRow enc Tryd.prog Tryd.f3 Rows.fnExactHallNewUptoRow.domain false Rows.fnExactHallNewUptoRow.laid) (((Rows.OpenSpec.upto Rows.fnExactHallNewSpec).at F).post enc Tryd.prog Tryd.f3 false true false false) := by
  obtain ⟨places, hx⟩ := reads os enc
  refine returnsInHanded_of_row (C := Tryd.checked) (s := Rows.OpenSpec.upto Rows.fnExactHallNewSpec) own started (by kernel_rfl) Tryd.func3
    (witness_row_at (enc := enc) (C := Tryd.checked) false (laidWorld os) #[.slice none 0 0] rfl (by kernel_rfl) (by kernel_rfl) (by kernel_rfl)
      (OpenSpec.preRow_of_cond 8 hx (by kernel_rfl) (fun k hk => by cases hk; kernel_rfl) (by kernel_rfl) (laid_met os))) ?_
  intro W base args ds gs before hval hW _ hcond _ hL _ _
  exact contract H enc W base args ds gs before hval hW (hcond _ rfl)
theorem saidUpto : Rows.FnExactHallNewUptoSaid :=
  OpenClaim.holds_of_cond 3 Tryd.f3 rfl rfl rfl rfl rfl rfl rfl ⟨rfl, rfl, rfl, rfl, rfl⟩ rfl rfl rfl rfl rfl (by kernel_rfl) Tryd.func3 (by kernel_rfl)
    (of_decide_eq_true (by kernel_rfl)) (by unfold Func.isWrapper; first | (rw [if_pos (by decide +kernel)]; kernel_rfl) | (rw [if_neg (by decide +kernel)]; exact ⟨rfl, rfl⟩))
    (fun os started H enc _ F => by rw [OpenClaim.pre_eq_preRow]; exact lifted os started H enc F)
theorem plain (f : FuncId) (fn : Func) (hf : Tryd.pinned.checked.prog.funcNamed "loop.example/g00183/laws.FnExactHallNew" = some f) (hfn : Tryd.pinned.checked.prog.funcs[f]? = some fn) :
    false = Tryd.pinned.checked.prog.looks [] ∧ ∀ (j : Nat) t, fn.params[j]? = some t → Tryd.pinned.checked.prog.wantsStandIn t = false := by
  obtain rfl : f = 3 := Option.some.inj ((show Tryd.prog.funcNamed "loop.example/g00183/laws.FnExactHallNew" = some 3 by kernel_rfl).symm.trans hf) |>.symm
  obtain rfl : fn = Tryd.f3 := (Option.some.inj (Tryd.func3.symm.trans hfn)).symm
  refine ⟨by kernel_rfl, fun j t ht => ?_⟩
  rw [Tryd.params3] at ht
  obtain rfl : t = 22 := by simpa using Array.mem_of_getElem? ht
  exact (show Tryd.prog.wantsStandIn 22 = false by kernel_rfl)
theorem hallnew_card : Rows.FnExactHallNewUptoCardSaid :=
  Claim7.holds_tied_plain_at .later [] _ _ _ _ saidUpto (fun _ h => by cases h) (by kernel_rfl) (fun _ h => by cases h) fnExactHallNewUpto_row_tie rfl ⟨rfl, rfl⟩ (by kernel_rfl) rfl plain (by kernel_rfl)
#print axioms hallnew_card
end Go.Proofs.YtpgdmpihbfmnfaaDoor
