/- What a caller has heard: both ways. -/
import Derived.Test.YtpgdmpihbfmnfaaGreatHA
import Derived.Test.YtpgdmpihbfmnfaaGreatE3
import Derived.Shelf.Spec.SlicesGrow
import Derived.Test.YtpgdmpihbfmnfaaGreatHB
import Derived.Test.YtpgdmpihbfmnfaaGreatHS
import Derived.Test.YtpgdmpihbfmnfaaGreatHC
import Derived.Test.YtpgdmpihbfmnfaaGreatHD
set_option linter.unusedSimpArgs false
set_option linter.unusedVariables false
set_option maxRecDepth 100000
namespace Go.Eng
open Go.Proofs
noncomputable def c_spec_l01In : ACode := (.seq (.reg false [⟨none, .tk 6 (.k (.b false)), []⟩] [0, 1, 2]) (.seq (.reg false [⟨none, .p 7 (.mv (.t 0)), []⟩, ⟨none, .p 8 (.mv (.t 1)), []⟩, ⟨none, .p 9 (.bin .geq (.t 7) (.t 8)), []⟩, ⟨none, .p 10 (.mv (.t 9)), []⟩, ⟨some (10, true), .p 11 (.mv (.t 0)), []⟩, ⟨some (10, true), .p 12 (.mv (.t 2)), []⟩, ⟨some (10, true), .p 13 (.bin .leq (.t 11) (.t 12)), []⟩, ⟨none, .p 14 (.pick (.t 10) (.t 13) (.k (.b false))), []⟩, ⟨none, .tk 6 (.t 14), []⟩] [6]) .ret))
theorem code_spec_l01In : ∃ c, Tryz.f25.body = some c ∧ cfit PP 15 c c_spec_l01In = true := by
  refine ⟨_, (rfl : Tryz.f25.body = some _), ?_⟩
  kernel_rfl
noncomputable def c_impl_inRange : ACode := (.seq (.reg false [⟨none, .tk 6 (.k (.b false)), []⟩] [0, 1, 2]) (.seq (.reg false [⟨none, .p 7 (.mv (.t 0)), []⟩, ⟨none, .p 8 (.mv (.t 1)), []⟩, ⟨none, .p 9 (.bin .geq (.t 7) (.t 8)), []⟩, ⟨none, .p 10 (.mv (.t 9)), []⟩, ⟨some (10, true), .p 11 (.mv (.t 0)), []⟩, ⟨some (10, true), .p 12 (.mv (.t 2)), []⟩, ⟨some (10, true), .p 13 (.bin .leq (.t 11) (.t 12)), []⟩, ⟨none, .p 14 (.pick (.t 10) (.t 13) (.k (.b false))), []⟩, ⟨none, .tk 6 (.t 14), []⟩] [6]) .ret))
theorem code_impl_inRange : ∃ c, Tryz.f30.body = some c ∧ cfit PP 15 c c_impl_inRange = true := by
  refine ⟨_, (rfl : Tryz.f30.body = some _), ?_⟩
  kernel_rfl
noncomputable def c_spec_Heard : ACode := (.seq (.reg false [⟨none, .box 2 (.t 0), []⟩, ⟨none, .tk 4 (.k (.nl 1)), []⟩] [1, 2, 10002]) (.seq (.seq (.reg false [⟨none, .p 6 (.mv (.t 1)), []⟩, ⟨none, .p 7 (.fa (.t 2) 0 4), []⟩, ⟨none, .p 8 (.ld (.t 7) 0 1 false), []⟩, ⟨none, .p 9 (.len false (.t 8)), []⟩, ⟨none, .call (some 10) 25 [.rd (.t 6), .rd (.k (.i .i64 1)), .rd (.t 9)], []⟩, ⟨none, .p 11 (.un .not (.t 10)), []⟩] [1, 2, 11, 10002]) (.cond (.t 11) (.seq (.reg false [⟨none, .bsl 12 1 [], []⟩, ⟨none, .tk 4 (.t 12), []⟩] [4]) .ret) .skip)) (.seq (.reg false [⟨none, .p 13 (.fa (.t 2) 0 4), []⟩, ⟨none, .p 14 (.ld (.t 13) 0 1 false), []⟩, ⟨none, .p 15 (.mv (.t 1)), []⟩, ⟨none, .p 16 (.bin .sub (.t 15) (.k (.i .i64 1))), []⟩, ⟨none, .p 17 (.ia (.t 14) (.t 16) 11), []⟩, ⟨none, .p 18 (.ld (.t 17) 0 11 true), []⟩, ⟨none, .alloc 5 [.i .i64 0, .s emp, .s emp, .b false, .b false, .nl 1, .s emp, .nl 1, .b false, .s emp, .nl 1], []⟩, ⟨none, .st (.t 5) (.t 18) 11, []⟩] [5, 10005]) (.seq (.reg true [⟨none, .bsl 19 1 [], []⟩, ⟨none, .p 20 (.fa (.t 5) 0 10), []⟩, ⟨none, .p 21 (.ld (.t 20) 0 1 false), [1]⟩, ⟨none, .app 22 (.t 19) (.t 21) 1 16, [0, 2]⟩, ⟨none, .p 23 (.fa (.t 5) 0 6), []⟩, ⟨none, .p 24 (.fa (.t 23) 0 1), [4]⟩, ⟨none, .p 25 (.ld (.t 24) 0 1 false), [5]⟩, ⟨none, .app 26 (.t 22) (.t 25) 1 16, [3, 6, 3]⟩, ⟨none, .tk 4 (.t 26), [7, 7, 0, 1, 2, 3, 4, 5, 6, 7]⟩] [4]) .ret))))
theorem code_spec_Heard : ∃ c, Tryz.f6.body = some c ∧ cfit PP 27 c c_spec_Heard = true := by
  refine ⟨_, (rfl : Tryz.f6.body = some _), ?_⟩
  kernel_rfl
theorem t_l01In {G : Glob} (x l m : Int) : FnD PP G 25 [.val false [.ow (.lit (.int .i64 x))], .val false [.ow (.lit (.int .i64 l))], .val false [.ow (.lit (.int .i64 m))]] [] []
    [.v false [.ow (.lit (.bool (decide (l ≤ x ∧ x ≤ m))))]] [] [] := by
  obtain ⟨cc, hb, hcf⟩ := code_spec_l01In
  refine fn_ok (fn := Tryz.f25) (specs := [.t 6]) (by kernel_rfl) hb (by show (15:Nat) ≤ 10000; omega) hcf (by kernel_rfl) (by show (3:Nat) ≤ 15; omega) (by simp) (by simp) rfl rfl (by simp) rfl ?_
  simp only [c_spec_l01In]
  by_cases h1 : l ≤ x
  · simp only [push_cast, ↓reduceIte, Nat.reduceEqDiff, Nat.reduceLT, Nat.reduceLeDiff, Nat.reduceAdd, Nat.reduceMul, Nat.reduceSub, Nat.reduceDiv, Nat.reduceMod, Nat.reduceBEq, reduceCtorEq, Int.toNat_natCast, Int.reduceToNat, Option.some.injEq, Nat.le_refl, List.take_length, h1]
  · simp only [push_cast, ↓reduceIte, Nat.reduceEqDiff, Nat.reduceLT, Nat.reduceLeDiff, Nat.reduceAdd, Nat.reduceMul, Nat.reduceSub, Nat.reduceDiv, Nat.reduceMod, Nat.reduceBEq, reduceCtorEq, Int.toNat_natCast, Int.reduceToNat, Option.some.injEq, Nat.le_refl, List.take_length, h1, false_and]
theorem t_inRange {G : Glob} (x l m : Int) : FnD PP G 30 [.val false [.ow (.lit (.int .i64 x))], .val false [.ow (.lit (.int .i64 l))], .val false [.ow (.lit (.int .i64 m))]] [] []
    [.v false [.ow (.lit (.bool (decide (l ≤ x ∧ x ≤ m))))]] [] [] := by
  obtain ⟨cc, hb, hcf⟩ := code_impl_inRange
  refine fn_ok (fn := Tryz.f30) (specs := [.t 6]) (by kernel_rfl) hb (by show (15:Nat) ≤ 10000; omega) hcf (by kernel_rfl) (by show (3:Nat) ≤ 15; omega) (by simp) (by simp) rfl rfl (by simp) rfl ?_
  simp only [c_impl_inRange]
  by_cases h1 : l ≤ x
  · simp only [push_cast, ↓reduceIte, Nat.reduceEqDiff, Nat.reduceLT, Nat.reduceLeDiff, Nat.reduceAdd, Nat.reduceMul, Nat.reduceSub, Nat.reduceDiv, Nat.reduceMod, Nat.reduceBEq, reduceCtorEq, Int.toNat_natCast, Int.reduceToNat, Option.some.injEq, Nat.le_refl, List.take_length, h1]
  · simp only [push_cast, ↓reduceIte, Nat.reduceEqDiff, Nat.reduceLT, Nat.reduceLeDiff, Nat.reduceAdd, Nat.reduceMul, Nat.reduceSub, Nat.reduceDiv, Nat.reduceMod, Nat.reduceBEq, reduceCtorEq, Int.toNat_natCast, Int.reduceToNat, Option.some.injEq, Nat.le_refl, List.take_length, h1, false_and]
def heardF (cs : List XCaller) (c : Int) : List ByteArray := if 1 ≤ c ∧ c ≤ cs.length then (match cs[(c - 1).toNat]? with | some x => x.Got ++ x.Box.Texts | none => []) else []
theorem heardF_len (h : XHall) (c : Int) (hm : h.ms ≤ 1048576) : (heardF h.Callers c).length ≤ 1048576 := by
  unfold heardF
  split
  · split
    · rename_i x hx
      obtain ⟨hj, rfl⟩ := List.getElem?_eq_some_iff.1 hx
      have h1 := sum_mem XCaller.ms h.Callers _ hj
      simp only [XHall.ms, msL] at hm
      generalize h.Callers[(c - 1).toNat] = x at h1
      simp only [XCaller.ms, XBox.ms, msL] at h1
      simp only [List.length_append]
      omega
    · simp
  · simp
theorem t_specHeard {G : Glob} (h : XHall) (c : Int) (hm : h.ms ≤ 1048576) : FnD PP G 6 [.val true h.vw, .val false [.ow (.lit (.int .i64 c))]] [] [] [.v false [.ow (.sl .ow 1 ((heardF h.Callers c).map strR))]] [] [] := by
  obtain ⟨cc, hb, hcf⟩ := code_spec_Heard
  refine fn_ok (fn := Tryz.f6) (specs := [.t 4]) (by kernel_rfl) hb (by show (27:Nat) ≤ 10000; omega) hcf (by kernel_rfl) (by show (2:Nat) ≤ 27; omega) (by simp) (by simp) rfl rfl (by simp) rfl ?_
  simp only [c_spec_Heard]
  simp only [XHall.vw]
  simp only [push_cast, ↓reduceIte, Nat.reduceEqDiff, Nat.reduceLT, Nat.reduceLeDiff, Nat.reduceAdd, Nat.reduceMul, Nat.reduceSub, Nat.reduceDiv, Nat.reduceMod, Nat.reduceBEq, reduceCtorEq, Int.toNat_natCast, Int.reduceToNat, Option.some.injEq, Nat.le_refl, List.take_length]
  refine call_ok (t_l01In c 1 h.Callers.length) ?_
  simp only [push_cast, ↓reduceIte, Nat.reduceEqDiff, Nat.reduceLT, Nat.reduceLeDiff, Nat.reduceAdd, Nat.reduceMul, Nat.reduceSub, Nat.reduceDiv, Nat.reduceMod, Nat.reduceBEq, reduceCtorEq, Int.toNat_natCast, Int.reduceToNat, Option.some.injEq, Nat.le_refl, List.take_length]
  refine cnd_dec (fun hne => ?_) (fun hin => ?_)
  · simp only [push_cast, ↓reduceIte, Nat.reduceEqDiff, Nat.reduceLT, Nat.reduceLeDiff, Nat.reduceAdd, Nat.reduceMul, Nat.reduceSub, Nat.reduceDiv, Nat.reduceMod, Nat.reduceBEq, reduceCtorEq, Int.toNat_natCast, Int.reduceToNat, Option.some.injEq, Nat.le_refl, List.take_length]
    simp [heardF, hne]
  · have hin : 1 ≤ c ∧ c ≤ h.Callers.length := Classical.not_not.1 hin
    obtain ⟨j, rfl⟩ : ∃ j : Nat, c = (j : Int) + 1 := ⟨(c - 1).toNat, by omega⟩
    have hj : j < h.Callers.length := by omega
    have hlen : h.Callers.length ≤ 1048576 := by have := hm; simp only [XHall.ms, msL] at this; omega
    have hw : IntKind.i64.wrap ((j : Int) + 1 - 1) = (j : Int) := by rw [wrap64 (by omega) (by omega)]; omega
    simp only [push_cast, ↓reduceIte, Nat.reduceEqDiff, Nat.reduceLT, Nat.reduceLeDiff, Nat.reduceAdd, Nat.reduceMul, Nat.reduceSub, Nat.reduceDiv, Nat.reduceMod, Nat.reduceBEq, reduceCtorEq, Int.toNat_natCast, Int.reduceToNat, Option.some.injEq, Nat.le_refl, List.take_length, hw, getD_map hj, XCaller.row]
    repeat (first | refine And.intro (by omega) ?_ | refine And.intro ⟨by omega, by omega⟩ ?_ | refine And.intro ⟨by omega, by omega, by omega⟩ ?_)
    refine draw_any ?_
    simp only [push_cast, ↓reduceIte, Nat.reduceEqDiff, Nat.reduceLT, Nat.reduceLeDiff, Nat.reduceAdd, Nat.reduceMul, Nat.reduceSub, Nat.reduceDiv, Nat.reduceMod, Nat.reduceBEq, reduceCtorEq, Int.toNat_natCast, Int.reduceToNat, Option.some.injEq, Nat.le_refl, List.take_length]
    have hms : h.Callers[j].ms ≤ 1048576 := by
      have h1 := sum_mem XCaller.ms h.Callers j hj
      simp only [XHall.ms, msL] at hm
      omega
    simp only [XCaller.ms, XBox.ms, msL] at hms
    refine ⟨by omega, by omega, by kernel_rfl, ?_⟩
    have he : heardF h.Callers ((j : Int) + 1) = h.Callers[j].Got ++ h.Callers[j].Box.Texts := by
      have e : ((j : Int) + 1 - 1).toNat = j := by omega
      simp only [heardF, e, if_pos hin, List.getElem?_eq_getElem hj]
    rw [he, List.map_append]
end Go.Eng

set_option maxRecDepth 100000
namespace Go.Proofs
open Go.Shelf
def Tryz.growS_ren : Go.Shelf.Ren := ⟨fun | 4 => 65 | n => n, fun | 22 => 34 | 25 => 9 | 3 => 3 | 4 => 4 | 9 => 9 | 20 => 20 | 0 => 0 | n => n, fun | n => n⟩
theorem Tryz.growS : Go.Proofs.Lays8.n4 Tryz.prog Tryz.growS_ren := {
  mixed := by kernel_rfl,
  f4 := ⟨Tryz.f65.name, by decide, Tryz.func65.trans (congrArg some (by kernel_rfl))⟩,
  t0 := Tryz.underlying0,
  a0 := Tryz.isAgg0,
  z0 := Tryz.sizeOf0,
  v0 := Tryz.zeroValue0,
  t3 := Tryz.underlying3,
  a3 := Tryz.isAgg3,
  z3 := Tryz.sizeOf3,
  v3 := Tryz.zeroValue3,
  t4 := Tryz.underlying4,
  a4 := Tryz.isAgg4,
  z4 := Tryz.sizeOf4,
  v4 := Tryz.zeroValue4,
  t9 := Tryz.underlying9,
  a9 := Tryz.isAgg9,
  z9 := Tryz.sizeOf9,
  v9 := Tryz.zeroValue9,
  t20 := Tryz.underlying20,
  a20 := Tryz.isAgg20,
  z20 := Tryz.sizeOf20,
  v20 := Tryz.zeroValue20,
  t22 := Tryz.underlying34,
  a22 := Tryz.isAgg34,
  z22 := Tryz.sizeOf34,
  v22 := Tryz.zeroValue34 }
end Go.Proofs

namespace Go.Eng
open Go.Proofs
theorem ent_lit {g : Ghost} {w : World} {As : List A} {mems : List Row} {hids : List (Nat × Row)} {vs : List Value} (h : Ent g w As mems hids vs) {i : Nat} {v : Value} (hi : As[i]? = some (.val false [.ow (.lit v)])) : vs[i]? = some v := by
  have h1 := h.args i _ hi
  have h2 : ClR [] g w i 0 (.ow (.lit v)) (vs.toArray.getD i undef) := h1
  have h3 := h2.hd.1
  have hlt : i < vs.length := by rw [h.len]; exact (List.getElem?_eq_some_iff.1 hi).1
  rw [List.getElem?_eq_getElem hlt]
  rw [Array.getD_eq_getD_getElem?, List.getElem?_toArray, List.getElem?_eq_getElem hlt] at h3
  simpa using h3
theorem info_str : (Tryz.prog.info? (Tryz.growS_ren.t 25)).map (fun i => (i.zero, i.size, i.bytes)) = some (some (.string .empty), 1, 16) := by kernel_rfl
theorem zc_size (z : Array Value) (n : Nat) : (Builtin.zeroCells z n).size = n * z.size := by
  simp [Builtin.zeroCells]
theorem t_Grow {G : Glob} (n : Nat) (hn : n ≤ 2097152) : FnD PP G 65 [.val false [.ow (.lit (.slice none 0 0))], .val false [.ow (.lit (.int .i64 n))]] [] [] [.v false [.ow (.sl .ow 1 [])]] [] [] := by
  refine fnd_fresh (ty := Tryz.growS_ren.t 25) (by omega) (by simp) rfl (by simp [cellsR]) (by simp) (fun a ha => by simp at ha; rcases ha with rfl | rfl <;> (intro o; cases o <;> rfl)) rfl ?_
  intro w g vs hgl hent
  obtain ⟨i0, hi0, hz⟩ := Option.map_eq_some_iff.1 info_str
  simp only [Prod.mk.injEq] at hz
  obtain ⟨hz0, hz1, hz2⟩ := hz
  have hlen := hent.len
  have hvs : vs.toArray = #[.slice none 0 0, .int .i64 n] := by
    match vs, hlen with
    | [a, b], _ =>
      have h1 := ent_lit hent (i := 0) (v := .slice none 0 0) rfl
      have h2 := ent_lit hent (i := 1) (v := .int .i64 n) rfl
      simp at h1 h2
      subst h1; subst h2; rfl
  rw [hvs]
  by_cases hroom : n = 0
  · subst hroom
    refine (Any8.slices_Grow_room Tryz.growS none 0 0 0 w (by omega) (by omega) (by omega) (by omega)).mono fun e w' ⟨he, hw⟩ => ?_
    subst hw
    exact ⟨_, he, World.ownsRow_nil _ _ _ _, Go.RowKit.Below.refl _ _⟩
  · have hcap := grownCap_ge w (0 + n) 0 (Tryz.growS_ren.t 25)
    have hcm := grownCap_le_maxLen w (0 + n) 0 (Tryz.growS_ren.t 25) (by unfold maxLen; omega)
    refine (Any8.slices_Grow_grow Tryz.growS i0 _ hi0 hz0 (by omega) none 0 0 n [] w (by omega) (by omega) (by rw [hz2]; omega) (by omega) (by simp) (by simp) (by simp)).mono fun e w' ⟨he, hw⟩ => ?_
    subst hw
    refine ⟨_, he, ⟨by simp [cellsR], .inr ⟨w.heap.size, _, _, rfl, Nat.le_refl _, heap_alloc_new _ _, Nat.zero_le _, hcm, ?_, by simp [cellsR]⟩⟩, ?_⟩
    · simp only [Array.size_append, zc_size, Value.cells]
      have e1 : (#[Value.string ByteArray.empty] : Array Value).size = 1 := rfl
      have e2 : (([] : List Value).toArray).size = 0 := rfl
      rw [e1, e2]
      omega
    · exact ⟨rfl, rfl, rfl, by rw [alloc_size]; show w.heap.size ≤ w.heap.size + 1; omega, fun k hk => by
        have := Go.RowKit.Below.heap_alloc w.drew (.cells (([] : List Value).toArray ++ Builtin.zeroCells (Value.string .empty).cells (0 + n - 0) ++ Builtin.zeroCells (Value.string .empty).cells (grownCap w (0 + n) 0 (Tryz.growS_ren.t 25) - (0 + n))) (Tryz.growS_ren.t 25)) k hk
        exact this⟩
noncomputable def c_slices_Concat_string_string : ACode := (.seq (.reg false [⟨none, .tk 2 (.k (.nl 1)), []⟩] [0]) (.seq (.reg false [⟨none, .asg 3 (.k (.i .i64 0)), []⟩] [0, 3]) (.seq (.seq (.reg false [⟨none, .p 9 (.mv (.t 0)), []⟩, ⟨none, .p 10 (.len false (.t 9)), []⟩, ⟨none, .p 11 (.mv (.k (.i .i64 0))), []⟩] [0, 3, 9, 10, 11]) (.block 0 (.loop [0, 3, 9, 10, 11] (.seq (.reg false [⟨none, .p 12 (.bin .lss (.t 11) (.t 10)), []⟩] [0, 3, 9, 10, 11, 12]) (.seq (.cond (.t 12) .skip (.exit 0 [0, 3])) (.seq (.block 1 (.seq (.reg false [⟨none, .p 13 (.ia (.t 9) (.t 11) 1), []⟩, ⟨none, .p 14 (.ld (.t 13) 0 1 false), []⟩, ⟨none, .asg 5 (.t 14), []⟩] [0, 3, 5, 9, 10, 11]) (.seq (.reg false [⟨none, .p 15 (.mv (.t 3)), []⟩, ⟨none, .p 16 (.mv (.t 5)), []⟩, ⟨none, .p 17 (.len false (.t 16)), []⟩, ⟨none, .p 18 (.bin .add (.t 15) (.t 17)), []⟩, ⟨none, .asg 3 (.t 18), []⟩] [0, 3, 9, 10, 11]) (.seq (.reg false [⟨none, .p 19 (.mv (.t 3)), []⟩, ⟨none, .p 20 (.bin .lss (.t 19) (.k (.i .i64 0))), []⟩] [0, 3, 9, 10, 11, 20]) (.cond (.t 20) (.reg false [⟨none, .no (some 21), []⟩, ⟨none, .no none, []⟩] [0, 3, 9, 10, 11]) .skip))))) (.reg false [⟨none, .p 22 (.bin .add (.t 11) (.k (.i .i64 1))), []⟩, ⟨none, .p 11 (.mv (.t 22)), []⟩] [0, 3, 9, 10, 11]))))))) (.seq (.reg false [⟨none, .p 23 (.mv (.t 3)), []⟩, ⟨none, .call (some 24) 65 [.rd (.k .nv), .rd (.t 23)], []⟩, ⟨none, .asg 6 (.t 24), []⟩] [0, 6]) (.seq (.seq (.reg false [⟨none, .p 25 (.mv (.t 0)), []⟩, ⟨none, .p 26 (.len false (.t 25)), []⟩, ⟨none, .p 27 (.mv (.k (.i .i64 0))), []⟩] [6, 25, 26, 27]) (.block 2 (.loop [6, 25, 26, 27] (.seq (.reg false [⟨none, .p 28 (.bin .lss (.t 27) (.t 26)), []⟩] [6, 25, 26, 27, 28]) (.seq (.cond (.t 28) .skip (.exit 2 [6])) (.seq (.block 3 (.seq (.reg false [⟨none, .p 29 (.ia (.t 25) (.t 27) 1), []⟩, ⟨none, .p 30 (.ld (.t 29) 0 1 false), []⟩, ⟨none, .asg 8 (.t 30), []⟩] [6, 8, 25, 26, 27]) (.reg false [⟨none, .p 31 (.mv (.t 6)), []⟩, ⟨none, .p 32 (.mv (.t 8)), []⟩, ⟨none, .app 33 (.t 31) (.t 32) 1 16, []⟩, ⟨none, .asg 6 (.t 33), []⟩] [6, 25, 26, 27]))) (.reg false [⟨none, .p 34 (.bin .add (.t 27) (.k (.i .i64 1))), []⟩, ⟨none, .p 27 (.mv (.t 34)), []⟩] [6, 25, 26, 27]))))))) (.seq (.reg false [⟨none, .p 35 (.mv (.t 6)), []⟩, ⟨none, .tk 2 (.t 35), []⟩] [2]) .ret))))))
theorem code_slices_Concat_string_string : ∃ c, Tryz.f31.body = some c ∧ cfit PP 36 c c_slices_Concat_string_string = true := by
  refine ⟨_, (rfl : Tryz.f31.body = some _), ?_⟩
  kernel_rfl
def totL (xss : List (List ByteArray)) : Nat := (xss.map List.length).sum
theorem t_Concat {G : Glob} (xss : List (List ByteArray)) (hl : xss.length ≤ 1048576) (hn : totL xss ≤ 2097152) : FnD PP G 31 [.val false [.vw none [] (.sl .ow 1 (xss.map fun xs => [.sl .ow 1 (xs.map strR)]))]] [] [] [.v false [.ow (.sl .ow 1 (xss.flatten.map strR))]] [] [] := by
  obtain ⟨cc, hb, hcf⟩ := code_slices_Concat_string_string
  refine fn_ok (fn := Tryz.f31) (specs := [.t 2]) (by kernel_rfl) hb (by show (36:Nat) ≤ 10000; omega) hcf (by kernel_rfl) (by show (1:Nat) ≤ 36; omega) (by simp) (by simp) rfl rfl (by simp) rfl ?_
  simp only [c_slices_Concat_string_string]
  simp only [push_cast, ↓reduceIte, Nat.reduceEqDiff, Nat.reduceLT, Nat.reduceLeDiff, Nat.reduceAdd, Nat.reduceMul, Nat.reduceSub, Nat.reduceDiv, Nat.reduceMod, Nat.reduceBEq, reduceCtorEq, Int.toNat_natCast, Int.reduceToNat, Option.some.injEq, Nat.le_refl, List.take_length]
  have hV : ∀ i, totL (xss.take i) ≤ totL xss := fun i => sum_le List.length xss i
  have hA : ∀ i (h : i < xss.length), totL (xss.take (i + 1)) = totL (xss.take i) + xss[i].length := fun i h => sum_take List.length xss i h
  have hF : ∀ ys : List (List ByteArray), ys.flatten.length = totL ys := fun ys => by rw [List.length_flatten]; rfl
  refine cwp_loop (fun i : Nat => ⟨[(0, .val false [.vw none [] (.sl .ow 1 (xss.map fun xs => [T.sl .ow 1 (xs.map strR)]))]), (3, .val false [.ow (.lit (.int .i64 (totL (xss.take i) : Nat)))]), (9, .val false [.vw none [] (.sl .ow 1 (xss.map fun xs => [T.sl .ow 1 (xs.map strR)]))]), (10, .val false [.ow (.lit (.int .i64 xss.length))]), (11, .val false [.ow (.lit (.int .i64 i))])], []⟩)
    (fun i => i ≤ xss.length) (fun i => xss.length - i) 0 rfl (by simp [totL]; rfl) (by omega) ?_
  intro i hle
  simp only [push_cast, ↓reduceIte, Nat.reduceEqDiff, Nat.reduceLT, Nat.reduceLeDiff, Nat.reduceAdd, Nat.reduceMul, Nat.reduceSub, Nat.reduceDiv, Nat.reduceMod, Nat.reduceBEq, reduceCtorEq, Int.toNat_natCast, Int.reduceToNat, Option.some.injEq, Nat.le_refl, List.take_length]
  refine cnd_dec (fun hlt => ?_) (fun hge => ?_)
  · have hi : i < xss.length := by omega
    have h1 := hV (i + 1); have h2 := hA i hi
    simp only [push_cast, ↓reduceIte, Nat.reduceEqDiff, Nat.reduceLT, Nat.reduceLeDiff, Nat.reduceAdd, Nat.reduceMul, Nat.reduceSub, Nat.reduceDiv, Nat.reduceMod, Nat.reduceBEq, reduceCtorEq, Int.toNat_natCast, Int.reduceToNat, Option.some.injEq, Nat.le_refl, List.take_length, getD_map hi]
    repeat (first | refine And.intro (by omega) ?_ | refine And.intro ⟨by omega, by omega⟩ ?_ | refine And.intro ⟨by omega, by omega, by omega⟩ ?_)
    rw [wrap64 (by omega) (by omega)]
    refine cnd_dec (fun h => by omega) (fun _ => ?_)
    simp only [push_cast, ↓reduceIte, Nat.reduceEqDiff, Nat.reduceLT, Nat.reduceLeDiff, Nat.reduceAdd, Nat.reduceMul, Nat.reduceSub, Nat.reduceDiv, Nat.reduceMod, Nat.reduceBEq, reduceCtorEq, Int.toNat_natCast, Int.reduceToNat, Option.some.injEq, Nat.le_refl, List.take_length]
    refine ⟨i + 1, ?_, by omega, by omega⟩
    rw [wrap64 (by omega) (by omega), h2]
    simp
  · have hi : i = xss.length := by omega
    subst hi
    rw [List.take_length]
    simp only [push_cast, ↓reduceIte, Nat.reduceEqDiff, Nat.reduceLT, Nat.reduceLeDiff, Nat.reduceAdd, Nat.reduceMul, Nat.reduceSub, Nat.reduceDiv, Nat.reduceMod, Nat.reduceBEq, reduceCtorEq, Int.toNat_natCast, Int.reduceToNat, Option.some.injEq, Nat.le_refl, List.take_length]
    refine call_ok (t_Grow (totL xss) hn) ?_
    simp only [push_cast, ↓reduceIte, Nat.reduceEqDiff, Nat.reduceLT, Nat.reduceLeDiff, Nat.reduceAdd, Nat.reduceMul, Nat.reduceSub, Nat.reduceDiv, Nat.reduceMod, Nat.reduceBEq, reduceCtorEq, Int.toNat_natCast, Int.reduceToNat, Option.some.injEq, Nat.le_refl, List.take_length]
    refine cwp_loop (fun i : Nat => ⟨[(6, .val false [.ow (.sl .ow 1 ((xss.take i).flatten.map strR))]), (25, .val false [.vw none [] (.sl .ow 1 (xss.map fun xs => [T.sl .ow 1 (xs.map strR)]))]), (26, .val false [.ow (.lit (.int .i64 xss.length))]), (27, .val false [.ow (.lit (.int .i64 i))])], []⟩)
      (fun i => i ≤ xss.length) (fun i => xss.length - i) 0 rfl (by simp; rfl) (by omega) ?_
    intro i hle
    simp only [push_cast, ↓reduceIte, Nat.reduceEqDiff, Nat.reduceLT, Nat.reduceLeDiff, Nat.reduceAdd, Nat.reduceMul, Nat.reduceSub, Nat.reduceDiv, Nat.reduceMod, Nat.reduceBEq, reduceCtorEq, Int.toNat_natCast, Int.reduceToNat, Option.some.injEq, Nat.le_refl, List.take_length]
    refine cnd_dec (fun hlt => ?_) (fun hge => ?_)
    · have hi : i < xss.length := by omega
      have h1 := hV (i + 1); have h2 := hA i hi; have h3 := hF (xss.take i)
      simp only [push_cast, ↓reduceIte, Nat.reduceEqDiff, Nat.reduceLT, Nat.reduceLeDiff, Nat.reduceAdd, Nat.reduceMul, Nat.reduceSub, Nat.reduceDiv, Nat.reduceMod, Nat.reduceBEq, reduceCtorEq, Int.toNat_natCast, Int.reduceToNat, Option.some.injEq, Nat.le_refl, List.take_length, getD_map hi]
      repeat (first | refine And.intro (by omega) ?_ | refine And.intro ⟨by omega, by omega⟩ ?_ | refine And.intro ⟨by omega, by omega, by omega⟩ ?_)
      refine ⟨i + 1, ?_, by omega, by omega⟩
      rw [wrap64 (by omega) (by omega), List.take_succ_eq_append_getElem hi, List.flatten_append]
      simp
    · have hi : i = xss.length := by omega
      subst hi
      rw [List.take_length]
      simp only [push_cast, ↓reduceIte, Nat.reduceEqDiff, Nat.reduceLT, Nat.reduceLeDiff, Nat.reduceAdd, Nat.reduceMul, Nat.reduceSub, Nat.reduceDiv, Nat.reduceMod, Nat.reduceBEq, reduceCtorEq, Int.toNat_natCast, Int.reduceToNat, Option.some.injEq, Nat.le_refl, List.take_length]
end Go.Eng

set_option maxRecDepth 100000
namespace Go.Eng
open Go.Proofs
noncomputable def c_impl_Heard : ACode := (.seq (.reg false [⟨none, .box 2 (.t 0), []⟩, ⟨none, .tk 4 (.k (.nl 1)), []⟩] [1, 2, 10002]) (.seq (.seq (.reg false [⟨none, .p 6 (.mv (.t 1)), []⟩, ⟨none, .p 7 (.fa (.t 2) 0 4), []⟩, ⟨none, .p 8 (.ld (.t 7) 0 1 false), []⟩, ⟨none, .p 9 (.len false (.t 8)), []⟩, ⟨none, .call (some 10) 30 [.rd (.t 6), .rd (.k (.i .i64 1)), .rd (.t 9)], []⟩, ⟨none, .p 11 (.un .not (.t 10)), []⟩] [1, 2, 11, 10002]) (.cond (.t 11) (.seq (.reg false [⟨none, .tk 4 (.k (.nl 1)), []⟩] [4]) .ret) .skip)) (.seq (.reg false [⟨none, .p 12 (.fa (.t 2) 0 4), []⟩, ⟨none, .p 13 (.ld (.t 12) 0 1 false), []⟩, ⟨none, .p 14 (.mv (.t 1)), []⟩, ⟨none, .p 15 (.bin .sub (.t 14) (.k (.i .i64 1))), []⟩, ⟨none, .p 16 (.ia (.t 13) (.t 15) 11), []⟩, ⟨none, .p 17 (.ld (.t 16) 0 11 true), []⟩, ⟨none, .alloc 5 [.i .i64 0, .s emp, .s emp, .b false, .b false, .nl 1, .s emp, .nl 1, .b false, .s emp, .nl 1], []⟩, ⟨none, .st (.t 5) (.t 17) 11, []⟩] [5, 10005]) (.seq (.reg false [⟨none, .p 18 (.fa (.t 5) 0 10), []⟩, ⟨none, .p 19 (.ld (.t 18) 0 1 false), []⟩, ⟨none, .p 20 (.fa (.t 5) 0 6), []⟩, ⟨none, .p 21 (.fa (.t 20) 0 1), []⟩, ⟨none, .p 22 (.ld (.t 21) 0 1 false), []⟩, ⟨none, .bsv 23 1 [(.t 19), (.t 22)], []⟩, ⟨none, .call (some 24) 31 [.rd (.t 23)], []⟩, ⟨none, .tk 4 (.t 24), []⟩] [4]) .ret))))
theorem code_impl_Heard : ∃ c, Tryz.f8.body = some c ∧ cfit PP 25 c c_impl_Heard = true := by
  refine ⟨_, (rfl : Tryz.f8.body = some _), ?_⟩
  kernel_rfl
noncomputable def c_laws_FnExactHeard : ACode := (.seq (.reg false [⟨none, .box 2 (.t 0), []⟩, ⟨none, .tk 4 (.k (.b false)), []⟩] [1, 2, 10002]) (.seq (.reg false [⟨none, .asg 5 (.k (.i .i64 1048576)), []⟩] [1, 2, 5, 10002]) (.seq (.reg false [⟨none, .p 13 (.ld (.t 2) 0 7 true), []⟩, ⟨none, .p 14 (.mv (.t 5)), []⟩, ⟨none, .call (some 15) 5 [.rd (.t 13), .rd (.t 14)], []⟩, ⟨none, .asg 5 (.t 15), []⟩] [1, 2, 5, 10002]) (.seq (.seq (.reg false [⟨none, .p 16 (.mv (.t 5)), []⟩, ⟨none, .p 17 (.bin .lss (.t 16) (.k (.i .i64 0))), []⟩] [1, 2, 17, 10002]) (.cond (.t 17) (.seq (.reg false [⟨none, .tk 4 (.k (.b true)), []⟩] [4]) .ret) .skip)) (.seq (.reg false [⟨none, .p 18 (.ld (.t 2) 0 7 true), []⟩, ⟨none, .call (some 19) 7 [.rd (.t 18)], []⟩, ⟨none, .p 20 (.mv (.t 1)), []⟩, ⟨none, .call (some 21) 6 [.rd (.t 19), .rd (.t 20)], []⟩, ⟨none, .asg 6 (.t 21), []⟩] [1, 2, 6, 10002]) (.seq (.reg false [⟨none, .p 22 (.ld (.t 2) 0 7 true), []⟩, ⟨none, .call (some 23) 7 [.rd (.t 22)], []⟩, ⟨none, .alloc 7 [.nl 2, .nl 24, .nl 17, .nl 8, .nl 11, .nl 1, .nl 1], []⟩, ⟨none, .st (.t 7) (.t 23) 7, []⟩] [1, 2, 6, 7, 10002, 10007]) (.seq (.reg false [⟨none, .p 24 (.ld (.t 7) 0 7 true), []⟩, ⟨none, .p 25 (.mv (.t 1)), []⟩, ⟨none, .call (some 26) 8 [.rd (.t 24), .rd (.t 25)], []⟩, ⟨none, .asg 8 (.t 26), []⟩] [1, 2, 6, 7, 8, 10002, 10007]) (.seq (.seq (.reg false [⟨none, .p 27 (.mv (.t 8)), []⟩, ⟨none, .p 28 (.mv (.t 6)), []⟩, ⟨none, .call (some 29) 9 [.rd (.t 27), .rd (.t 28)], []⟩, ⟨none, .p 30 (.un .not (.t 29)), []⟩] [1, 2, 6, 7, 8, 30, 10002, 10007]) (.cond (.t 30) (.seq (.reg false [⟨none, .tk 4 (.k (.b false)), []⟩] [4]) .ret) .skip)) (.seq (.seq (.reg true [⟨none, .p 31 (.ld (.t 7) 0 7 true), []⟩, ⟨none, .p 32 (.ld (.t 2) 0 7 true), []⟩, ⟨none, .call (some 33) 7 [.rd (.t 32)], [1]⟩, ⟨none, .call (some 34) 10 [.rd (.t 31), .rd (.t 33)], [0, 2, 2]⟩, ⟨none, .p 35 (.un .not (.t 34)), [3]⟩] [1, 2, 6, 7, 8, 35, 10002, 10007]) (.cond (.t 35) (.seq (.reg false [⟨none, .tk 4 (.k (.b false)), []⟩] [4]) .ret) .skip)) (.seq (.reg false [⟨none, .asg 9 (.k (.i .i64 1)), []⟩] [1, 2, 6, 7, 8, 9, 10002, 10007]) (.seq (.reg false [⟨none, .p 36 (.ld (.t 7) 0 7 true), []⟩, ⟨none, .p 37 (.mv (.t 9)), []⟩, ⟨none, .call (some 38) 11 [.ln (.t 36), .rd (.t 37)], []⟩, ⟨none, .asg 9 (.t 38), []⟩] [1, 2, 6, 8, 9, 10002]) (.seq (.seq (.reg false [⟨none, .p 39 (.mv (.t 9)), []⟩, ⟨none, .p 40 (.bin .lss (.t 39) (.k (.i .i64 0))), []⟩, ⟨none, .p 41 (.mv (.t 40)), []⟩, ⟨some (41, false), .p 42 (.mv (.t 8)), []⟩, ⟨some (41, false), .p 43 (.mv (.t 6)), []⟩, ⟨some (41, false), .call (some 44) 9 [.rd (.t 42), .rd (.t 43)], []⟩, ⟨some (41, false), .p 45 (.un .not (.t 44)), []⟩, ⟨none, .p 46 (.pick (.t 41) (.k (.b true)) (.t 45)), []⟩] [1, 2, 6, 8, 46, 10002]) (.cond (.t 46) (.seq (.reg false [⟨none, .tk 4 (.k (.b false)), []⟩] [4]) .ret) .skip)) (.seq (.reg false [⟨none, .asg 10 (.k (.i .i64 1)), []⟩] [1, 2, 6, 8, 10, 10002]) (.seq (.reg false [⟨none, .p 47 (.mv (.t 8)), []⟩, ⟨none, .p 48 (.mv (.t 10)), []⟩, ⟨none, .call (some 49) 12 [.ln (.t 47), .rd (.t 48)], []⟩, ⟨none, .asg 10 (.t 49), []⟩] [1, 2, 6, 8, 10, 10002]) (.seq (.reg false [⟨none, .asg 11 (.k (.i .i64 1)), []⟩] [1, 2, 6, 8, 10, 11, 10002]) (.seq (.reg false [⟨none, .p 50 (.mv (.t 8)), []⟩, ⟨none, .p 51 (.mv (.t 11)), []⟩, ⟨none, .call (some 52) 13 [.rd (.t 50), .rd (.t 51)], []⟩, ⟨none, .asg 11 (.t 52), []⟩] [1, 2, 6, 8, 10, 11, 10002]) (.seq (.seq (.reg false [⟨none, .p 53 (.mv (.t 11)), []⟩, ⟨none, .p 54 (.bin .lss (.t 53) (.k (.i .i64 0))), []⟩] [1, 2, 6, 8, 10, 11, 54, 10002]) (.cond (.t 54) (.seq (.reg false [⟨none, .tk 4 (.k (.b false)), []⟩] [4]) .ret) .skip)) (.seq (.seq (.reg false [⟨none, .p 55 (.mv (.t 11)), []⟩, ⟨none, .p 56 (.mv (.t 10)), []⟩, ⟨none, .p 57 (.bin .neq (.t 55) (.t 56)), []⟩] [1, 2, 6, 8, 10, 57, 10002]) (.cond (.t 57) (.seq (.reg false [⟨none, .tk 4 (.k (.b false)), []⟩] [4]) .ret) .skip)) (.seq (.reg false [⟨none, .p 58 (.ld (.t 2) 0 7 true), []⟩, ⟨none, .call (some 59) 7 [.rd (.t 58)], []⟩, ⟨none, .p 60 (.mv (.t 1)), []⟩, ⟨none, .call (some 61) 8 [.rd (.t 59), .rd (.t 60)], []⟩, ⟨none, .asg 12 (.t 61), []⟩] [6, 8, 10, 12]) (.seq (.seq (.reg false [⟨none, .p 62 (.mv (.t 12)), []⟩, ⟨none, .p 63 (.mv (.t 6)), []⟩, ⟨none, .call (some 64) 9 [.rd (.t 62), .rd (.t 63)], []⟩, ⟨none, .p 65 (.un .not (.t 64)), []⟩] [8, 10, 65]) (.cond (.t 65) (.seq (.reg false [⟨none, .tk 4 (.k (.b false)), []⟩] [4]) .ret) .skip)) (.seq (.reg false [⟨none, .asg 11 (.k (.i .i64 1)), []⟩] [8, 10, 11]) (.seq (.reg false [⟨none, .p 66 (.mv (.t 8)), []⟩, ⟨none, .p 67 (.mv (.t 11)), []⟩, ⟨none, .call (some 68) 13 [.rd (.t 66), .rd (.t 67)], []⟩, ⟨none, .asg 11 (.t 68), []⟩] [10, 11]) (.seq (.seq (.reg false [⟨none, .p 69 (.mv (.t 11)), []⟩, ⟨none, .p 70 (.bin .lss (.t 69) (.k (.i .i64 0))), []⟩] [10, 11, 70]) (.cond (.t 70) (.seq (.reg false [⟨none, .tk 4 (.k (.b false)), []⟩] [4]) .ret) .skip)) (.seq (.seq (.reg false [⟨none, .p 71 (.mv (.t 11)), []⟩, ⟨none, .p 72 (.mv (.t 10)), []⟩, ⟨none, .p 73 (.bin .neq (.t 71) (.t 72)), []⟩] [73]) (.cond (.t 73) (.seq (.reg false [⟨none, .tk 4 (.k (.b false)), []⟩] [4]) .ret) .skip)) (.seq (.reg false [⟨none, .tk 4 (.k (.b true)), []⟩] [4]) .ret)))))))))))))))))))))))))
theorem code_laws_FnExactHeard : ∃ c, Tryz.f3.body = some c ∧ cfit PP 74 c c_laws_FnExactHeard = true := by
  refine ⟨_, (rfl : Tryz.f3.body = some _), ?_⟩
  kernel_rfl
theorem t_implHeard {G : Glob} (h : XHall) (c : Int) (hm : h.ms ≤ 1048576) : FnD PP G 8 [.val true h.vw, .val false [.ow (.lit (.int .i64 c))]] [] [] [.v false [.ow (.sl .ow 1 ((heardF h.Callers c).map strR))]] [] [] := by
  obtain ⟨cc, hb, hcf⟩ := code_impl_Heard
  refine fn_ok (fn := Tryz.f8) (specs := [.t 4]) (by kernel_rfl) hb (by show (25:Nat) ≤ 10000; omega) hcf (by kernel_rfl) (by show (2:Nat) ≤ 25; omega) (by simp) (by simp) rfl rfl (by simp) rfl ?_
  simp only [c_impl_Heard]
  simp only [XHall.vw]
  simp only [push_cast, ↓reduceIte, Nat.reduceEqDiff, Nat.reduceLT, Nat.reduceLeDiff, Nat.reduceAdd, Nat.reduceMul, Nat.reduceSub, Nat.reduceDiv, Nat.reduceMod, Nat.reduceBEq, reduceCtorEq, Int.toNat_natCast, Int.reduceToNat, Option.some.injEq, Nat.le_refl, List.take_length]
  refine call_ok (t_inRange c 1 h.Callers.length) ?_
  simp only [push_cast, ↓reduceIte, Nat.reduceEqDiff, Nat.reduceLT, Nat.reduceLeDiff, Nat.reduceAdd, Nat.reduceMul, Nat.reduceSub, Nat.reduceDiv, Nat.reduceMod, Nat.reduceBEq, reduceCtorEq, Int.toNat_natCast, Int.reduceToNat, Option.some.injEq, Nat.le_refl, List.take_length]
  refine cnd_dec (fun hne => ?_) (fun hin => ?_)
  · simp only [push_cast, ↓reduceIte, Nat.reduceEqDiff, Nat.reduceLT, Nat.reduceLeDiff, Nat.reduceAdd, Nat.reduceMul, Nat.reduceSub, Nat.reduceDiv, Nat.reduceMod, Nat.reduceBEq, reduceCtorEq, Int.toNat_natCast, Int.reduceToNat, Option.some.injEq, Nat.le_refl, List.take_length]
    simp [heardF, hne]
  · have hin : 1 ≤ c ∧ c ≤ h.Callers.length := Classical.not_not.1 hin
    obtain ⟨j, rfl⟩ : ∃ j : Nat, c = (j : Int) + 1 := ⟨(c - 1).toNat, by omega⟩
    have hj : j < h.Callers.length := by omega
    have hlen : h.Callers.length ≤ 1048576 := by have := hm; simp only [XHall.ms, msL] at this; omega
    have hw : IntKind.i64.wrap ((j : Int) + 1 - 1) = (j : Int) := by rw [wrap64 (by omega) (by omega)]; omega
    have hms : h.Callers[j].ms ≤ 1048576 := by
      have h1 := sum_mem XCaller.ms h.Callers j hj
      simp only [XHall.ms, msL] at hm
      omega
    simp only [XCaller.ms, XBox.ms, msL] at hms
    simp only [push_cast, ↓reduceIte, Nat.reduceEqDiff, Nat.reduceLT, Nat.reduceLeDiff, Nat.reduceAdd, Nat.reduceMul, Nat.reduceSub, Nat.reduceDiv, Nat.reduceMod, Nat.reduceBEq, reduceCtorEq, Int.toNat_natCast, Int.reduceToNat, Option.some.injEq, Nat.le_refl, List.take_length, hw, getD_map hj, XCaller.row]
    repeat (first | refine And.intro (by omega) ?_ | refine And.intro ⟨by omega, by omega⟩ ?_ | refine And.intro ⟨by omega, by omega, by omega⟩ ?_)
    have hc := t_Concat (G := G) [h.Callers[j].Got, h.Callers[j].Box.Texts] (by simp) (by simp [totL]; omega)
    simp only [List.map_cons, List.map_nil] at hc
    refine ⟨by simp, call_ok hc ?_⟩
    clear hc
    simp only [push_cast, ↓reduceIte, Nat.reduceEqDiff, Nat.reduceLT, Nat.reduceLeDiff, Nat.reduceAdd, Nat.reduceMul, Nat.reduceSub, Nat.reduceDiv, Nat.reduceMod, Nat.reduceBEq, reduceCtorEq, Int.toNat_natCast, Int.reduceToNat, Option.some.injEq, Nat.le_refl, List.take_length]
    have he : heardF h.Callers ((j : Int) + 1) = h.Callers[j].Got ++ h.Callers[j].Box.Texts := by
      have e : ((j : Int) + 1 - 1).toNat = j := by omega
      simp only [heardF, e, if_pos hin, List.getElem?_eq_getElem hj]
    rw [he]
    simp
theorem t_law {G : Glob} (h : XHall) (c : Int) (hm : h.ms ≤ 1048576) : FnD PP G 3 [.val true h.vw, .val false [.ow (.lit (.int .i64 c))]] [] [] [.v false [.ow (.lit (.bool true))]] [] [] := by
  obtain ⟨cc, hb, hcf⟩ := code_laws_FnExactHeard
  refine fn_ok (fn := Tryz.f3) (specs := [.t 4]) (by kernel_rfl) hb (by show (74:Nat) ≤ 10000; omega) hcf (by kernel_rfl) (by show (2:Nat) ≤ 74; omega) (by simp) (by simp) rfl rfl (by simp) rfl ?_
  simp only [c_laws_FnExactHeard]
  simp only [XHall.vw]
  simp only [push_cast, ↓reduceIte, Nat.reduceEqDiff, Nat.reduceLT, Nat.reduceLeDiff, Nat.reduceAdd, Nat.reduceMul, Nat.reduceSub, Nat.reduceDiv, Nat.reduceMod, Nat.reduceBEq, reduceCtorEq, Int.toNat_natCast, Int.reduceToNat, Option.some.injEq, Nat.le_refl, List.take_length]
  have hc := t_szHall (G := G) h 1048576 (by omega) (by omega)
  simp only [XHall.vw] at hc
  refine call_ok hc ?_
  clear hc
  simp only [push_cast, ↓reduceIte, Nat.reduceEqDiff, Nat.reduceLT, Nat.reduceLeDiff, Nat.reduceAdd, Nat.reduceMul, Nat.reduceSub, Nat.reduceDiv, Nat.reduceMod, Nat.reduceBEq, reduceCtorEq, Int.toNat_natCast, Int.reduceToNat, Option.some.injEq, Nat.le_refl, List.take_length]
  refine cnd_dec (fun h => by omega) (fun _ => ?_)
  simp only [push_cast, ↓reduceIte, Nat.reduceEqDiff, Nat.reduceLT, Nat.reduceLeDiff, Nat.reduceAdd, Nat.reduceMul, Nat.reduceSub, Nat.reduceDiv, Nat.reduceMod, Nat.reduceBEq, reduceCtorEq, Int.toNat_natCast, Int.reduceToNat, Option.some.injEq, Nat.le_refl, List.take_length]
  have hto := t_toHall (G := G) h hm
  simp only [XHall.vw, XHall.own] at hto
  refine call_ok hto ?_
  simp only [push_cast, ↓reduceIte, Nat.reduceEqDiff, Nat.reduceLT, Nat.reduceLeDiff, Nat.reduceAdd, Nat.reduceMul, Nat.reduceSub, Nat.reduceDiv, Nat.reduceMod, Nat.reduceBEq, reduceCtorEq, Int.toNat_natCast, Int.reduceToNat, Option.some.injEq, Nat.le_refl, List.take_length]
  have hsp := t_specHeard (G := G) h c hm
  simp only [XHall.vw] at hsp
  refine call_ok hsp ?_
  clear hsp
  simp only [push_cast, ↓reduceIte, Nat.reduceEqDiff, Nat.reduceLT, Nat.reduceLeDiff, Nat.reduceAdd, Nat.reduceMul, Nat.reduceSub, Nat.reduceDiv, Nat.reduceMod, Nat.reduceBEq, reduceCtorEq, Int.toNat_natCast, Int.reduceToNat, Option.some.injEq, Nat.le_refl, List.take_length]
  refine call_ok hto ?_
  simp only [push_cast, ↓reduceIte, Nat.reduceEqDiff, Nat.reduceLT, Nat.reduceLeDiff, Nat.reduceAdd, Nat.reduceMul, Nat.reduceSub, Nat.reduceDiv, Nat.reduceMod, Nat.reduceBEq, reduceCtorEq, Int.toNat_natCast, Int.reduceToNat, Option.some.injEq, Nat.le_refl, List.take_length]
  have him := t_implHeard (G := G) h c hm
  simp only [XHall.vw] at him
  refine call_ok him ?_
  simp only [push_cast, ↓reduceIte, Nat.reduceEqDiff, Nat.reduceLT, Nat.reduceLeDiff, Nat.reduceAdd, Nat.reduceMul, Nat.reduceSub, Nat.reduceDiv, Nat.reduceMod, Nat.reduceBEq, reduceCtorEq, Int.toNat_natCast, Int.reduceToNat, Option.some.injEq, Nat.le_refl, List.take_length]
  refine call_ok (t_eqStringS (heardF h.Callers c) (heardF h.Callers c)) ?_
  simp only [push_cast, ↓reduceIte, Nat.reduceEqDiff, Nat.reduceLT, Nat.reduceLeDiff, Nat.reduceAdd, Nat.reduceMul, Nat.reduceSub, Nat.reduceDiv, Nat.reduceMod, Nat.reduceBEq, reduceCtorEq, Int.toNat_natCast, Int.reduceToNat, Option.some.injEq, Nat.le_refl, List.take_length]
  refine draw_any ?_
  simp only [push_cast, ↓reduceIte, Nat.reduceEqDiff, Nat.reduceLT, Nat.reduceLeDiff, Nat.reduceAdd, Nat.reduceMul, Nat.reduceSub, Nat.reduceDiv, Nat.reduceMod, Nat.reduceBEq, reduceCtorEq, Int.toNat_natCast, Int.reduceToNat, Option.some.injEq, Nat.le_refl, List.take_length]
  refine call_ok hto ?_
  simp only [push_cast, ↓reduceIte, Nat.reduceEqDiff, Nat.reduceLT, Nat.reduceLeDiff, Nat.reduceAdd, Nat.reduceMul, Nat.reduceSub, Nat.reduceDiv, Nat.reduceMod, Nat.reduceBEq, reduceCtorEq, Int.toNat_natCast, Int.reduceToNat, Option.some.injEq, Nat.le_refl, List.take_length]
  have heq := t_eqHall (G := G) h h
  simp only [XHall.vw] at heq
  refine call_ok heq ?_
  simp only [push_cast, ↓reduceIte, Nat.reduceEqDiff, Nat.reduceLT, Nat.reduceLeDiff, Nat.reduceAdd, Nat.reduceMul, Nat.reduceSub, Nat.reduceDiv, Nat.reduceMod, Nat.reduceBEq, reduceCtorEq, Int.toNat_natCast, Int.reduceToNat, Option.some.injEq, Nat.le_refl, List.take_length]
  refine ⟨by kernel_rfl, ?_⟩
  try simp only [push_cast, ↓reduceIte, Nat.reduceEqDiff, Nat.reduceLT, Nat.reduceLeDiff, Nat.reduceAdd, Nat.reduceMul, Nat.reduceSub, Nat.reduceDiv, Nat.reduceMod, Nat.reduceBEq, reduceCtorEq, Int.toNat_natCast, Int.reduceToNat, Option.some.injEq, Nat.le_refl, List.take_length]
  have hgot : (heardF h.Callers c).length ≤ 1048576 := heardF_len h c hm
  have hmk := t_markHall (G := G) h 1 (by have := vct_Hall h; omega)
  simp only [XHall.el, XHall.vmk, XHall.vct] at hmk
  refine call_ok hmk ?_
  simp only [push_cast, ↓reduceIte, Nat.reduceEqDiff, Nat.reduceLT, Nat.reduceLeDiff, Nat.reduceAdd, Nat.reduceMul, Nat.reduceSub, Nat.reduceDiv, Nat.reduceMod, Nat.reduceBEq, reduceCtorEq, Int.toNat_natCast, Int.reduceToNat, Option.some.injEq, Nat.le_refl, List.take_length, mkL_len]
  simp (disch := omega) only [dec_nneg]
  simp only [push_cast, ↓reduceIte, Nat.reduceEqDiff, Nat.reduceLT, Nat.reduceLeDiff, Nat.reduceAdd, Nat.reduceMul, Nat.reduceSub, Nat.reduceDiv, Nat.reduceMod, Nat.reduceBEq, reduceCtorEq, Int.toNat_natCast, Int.reduceToNat, Option.some.injEq, Nat.le_refl, List.take_length]
  refine call_ok (t_eqStringS (heardF h.Callers c) (heardF h.Callers c)) ?_
  simp only [push_cast, ↓reduceIte, Nat.reduceEqDiff, Nat.reduceLT, Nat.reduceLeDiff, Nat.reduceAdd, Nat.reduceMul, Nat.reduceSub, Nat.reduceDiv, Nat.reduceMod, Nat.reduceBEq, reduceCtorEq, Int.toNat_natCast, Int.reduceToNat, Option.some.injEq, Nat.le_refl, List.take_length]
  have hcn : cntL (fun _ => 1) (heardF h.Callers c) = (heardF h.Callers c).length := cnt_len _
  have hms := t_markStringS (G := G) (heardF h.Callers c) 1 (by omega)
  simp only [hcn] at hms
  refine call_ok hms ?_
  simp only [push_cast, ↓reduceIte, Nat.reduceEqDiff, Nat.reduceLT, Nat.reduceLeDiff, Nat.reduceAdd, Nat.reduceMul, Nat.reduceSub, Nat.reduceDiv, Nat.reduceMod, Nat.reduceBEq, reduceCtorEq, Int.toNat_natCast, Int.reduceToNat, Option.some.injEq, Nat.le_refl, List.take_length, mkL_len]
  have hhs := t_heldStringS (G := G) (heardF h.Callers c) 1 (by omega)
  simp only [hcn] at hhs
  refine call_ok hhs ?_
  simp only [push_cast, ↓reduceIte, Nat.reduceEqDiff, Nat.reduceLT, Nat.reduceLeDiff, Nat.reduceAdd, Nat.reduceMul, Nat.reduceSub, Nat.reduceDiv, Nat.reduceMod, Nat.reduceBEq, reduceCtorEq, Int.toNat_natCast, Int.reduceToNat, Option.some.injEq, Nat.le_refl, List.take_length]
  simp (disch := omega) only [dec_nneg]
  simp only [push_cast, ↓reduceIte, Nat.reduceEqDiff, Nat.reduceLT, Nat.reduceLeDiff, Nat.reduceAdd, Nat.reduceMul, Nat.reduceSub, Nat.reduceDiv, Nat.reduceMod, Nat.reduceBEq, reduceCtorEq, Int.toNat_natCast, Int.reduceToNat, Option.some.injEq, Nat.le_refl, List.take_length]
  refine call_ok hto ?_
  simp only [push_cast, ↓reduceIte, Nat.reduceEqDiff, Nat.reduceLT, Nat.reduceLeDiff, Nat.reduceAdd, Nat.reduceMul, Nat.reduceSub, Nat.reduceDiv, Nat.reduceMod, Nat.reduceBEq, reduceCtorEq, Int.toNat_natCast, Int.reduceToNat, Option.some.injEq, Nat.le_refl, List.take_length]
  refine call_ok him ?_
  simp only [push_cast, ↓reduceIte, Nat.reduceEqDiff, Nat.reduceLT, Nat.reduceLeDiff, Nat.reduceAdd, Nat.reduceMul, Nat.reduceSub, Nat.reduceDiv, Nat.reduceMod, Nat.reduceBEq, reduceCtorEq, Int.toNat_natCast, Int.reduceToNat, Option.some.injEq, Nat.le_refl, List.take_length]
  refine call_ok (t_eqStringS (heardF h.Callers c) (heardF h.Callers c)) ?_
  simp only [push_cast, ↓reduceIte, Nat.reduceEqDiff, Nat.reduceLT, Nat.reduceLeDiff, Nat.reduceAdd, Nat.reduceMul, Nat.reduceSub, Nat.reduceDiv, Nat.reduceMod, Nat.reduceBEq, reduceCtorEq, Int.toNat_natCast, Int.reduceToNat, Option.some.injEq, Nat.le_refl, List.take_length]
  refine call_ok hhs ?_
  simp only [push_cast, ↓reduceIte, Nat.reduceEqDiff, Nat.reduceLT, Nat.reduceLeDiff, Nat.reduceAdd, Nat.reduceMul, Nat.reduceSub, Nat.reduceDiv, Nat.reduceMod, Nat.reduceBEq, reduceCtorEq, Int.toNat_natCast, Int.reduceToNat, Option.some.injEq, Nat.le_refl, List.take_length]
  simp (disch := omega) only [dec_nneg]
  simp only [push_cast, ↓reduceIte, Nat.reduceEqDiff, Nat.reduceLT, Nat.reduceLeDiff, Nat.reduceAdd, Nat.reduceMul, Nat.reduceSub, Nat.reduceDiv, Nat.reduceMod, Nat.reduceBEq, reduceCtorEq, Int.toNat_natCast, Int.reduceToNat, Option.some.injEq, Nat.le_refl, List.take_length]
end Go.Eng
