/- Harness: printed by hgen.py. -/
import Derived.Test.YtpgdmpihbfmnfaaGreatHA
set_option linter.unusedSimpArgs false
set_option linter.unusedVariables false
set_option maxRecDepth 100000
namespace Go.Eng
open Go.Proofs
noncomputable def c_laws_toIntS : ACode := (.seq (.reg false [⟨none, .tk 2 (.k (.nl 1)), []⟩] [0]) (.seq (.reg false [⟨none, .p 5 (.mv (.t 0)), []⟩, ⟨none, .p 6 (.len false (.t 5)), []⟩, ⟨none, .mks 7 (.t 6) (.t 6) [.i .i64 0] 8, []⟩, ⟨none, .asg 3 (.t 7), []⟩] [0, 3]) (.seq (.seq (.reg false [⟨none, .asg 4 (.k (.i .i64 0)), []⟩] [0, 3, 4]) (.block 0 (.loop [0, 3, 4] (.seq (.seq (.reg false [⟨none, .p 8 (.mv (.t 4)), []⟩, ⟨none, .p 9 (.mv (.t 0)), []⟩, ⟨none, .p 10 (.len false (.t 9)), []⟩, ⟨none, .p 11 (.bin .lss (.t 8) (.t 10)), []⟩] [0, 3, 4, 11]) (.cond (.t 11) .skip (.exit 0 [3]))) (.seq (.block 1 (.reg false [⟨none, .p 14 (.mv (.t 3)), []⟩, ⟨none, .p 15 (.mv (.t 4)), []⟩, ⟨none, .p 16 (.mv (.t 0)), []⟩, ⟨none, .p 17 (.mv (.t 4)), []⟩, ⟨none, .p 18 (.ia (.t 16) (.t 17) 1), []⟩, ⟨none, .p 19 (.ld (.t 18) 0 1 false), []⟩, ⟨none, .p 20 (.ia (.t 14) (.t 15) 1), []⟩, ⟨none, .st (.t 20) (.t 19) 1, []⟩] [0, 3, 4])) (.reg false [⟨none, .p 12 (.mv (.t 4)), []⟩, ⟨none, .p 13 (.bin .add (.t 12) (.k (.i .i64 1))), []⟩, ⟨none, .asg 4 (.t 13), []⟩] [0, 3, 4])))))) (.seq (.reg false [⟨none, .p 21 (.mv (.t 3)), []⟩, ⟨none, .tk 2 (.t 21), []⟩] [2]) .ret))))
theorem code_laws_toIntS : ∃ c, Tryz.f29.body = some c ∧ cfit PP 22 c c_laws_toIntS = true := by
  refine ⟨_, (rfl : Tryz.f29.body = some _), ?_⟩
  kernel_rfl
theorem t_toIntS {G : Glob} (xs : List Int) (hm : xs.length ≤ 1048576) : FnD PP G 29 [.val false [.vw none [] (.sl .ow 1 (xs.map intR))]] [] [] [.v false [.ow (.sl .ow 1 (xs.map intR))]] [] [] := by
  obtain ⟨cc, hb, hcf⟩ := code_laws_toIntS
  refine fn_ok (fn := Tryz.f29) (specs := [.t 2]) (by kernel_rfl) hb (by show (22:Nat) ≤ 10000; omega) hcf (by kernel_rfl) (by show (1:Nat) ≤ 22; omega) (by simp) (by simp) rfl rfl (by simp) rfl ?_
  simp only [c_laws_toIntS]
  try simp only [msL] at hm
  simp only [push_cast, ↓reduceIte, Nat.reduceEqDiff, Nat.reduceLT, Nat.reduceLeDiff, Nat.reduceAdd, Nat.reduceMul, Nat.reduceSub, Nat.reduceDiv, Nat.reduceMod, Nat.reduceBEq, reduceCtorEq, Int.toNat_natCast, Int.reduceToNat, Option.some.injEq, Nat.le_refl, List.take_length]
  refine ⟨⟨by omega, by omega, by omega⟩, ?_⟩
  have hrep : List.replicate xs.length [T.lit (.int .i64 0)] = (xs.take 0 ++ List.replicate (xs.length - 0) 0).map intR := by
    simp only [List.take_zero, List.nil_append, Nat.sub_zero, List.map_replicate]
    rfl
  rw [hrep]
  clear hrep
  refine cwp_loop (fun i : Nat => ⟨[(0, .val false [.vw none [] (.sl .ow 1 (xs.map intR))]), (3, .val false [.ow (.sl .ow 1 ((xs.take i ++ List.replicate (xs.length - i) 0).map intR))]), (4, .val false [.ow (.lit (.int .i64 i))])], []⟩)
    (fun i => i ≤ xs.length) (fun i => xs.length - i) 0 rfl (by simp [St.norm, nmL, nmA, nmC, St.get, getL, keyB, nmPl, nmKs]) (by omega) ?_
  intro i hle
  simp only [push_cast, ↓reduceIte, Nat.reduceEqDiff, Nat.reduceLT, Nat.reduceLeDiff, Nat.reduceAdd, Nat.reduceMul, Nat.reduceSub, Nat.reduceDiv, Nat.reduceMod, Nat.reduceBEq, reduceCtorEq, Int.toNat_natCast, Int.reduceToNat, Option.some.injEq, Nat.le_refl, List.take_length]
  refine cnd_dec (fun hlt => ?_) (fun hge => ?_)
  · have hi : i < xs.length := by omega
    have hl : (xs.take i ++ List.replicate (xs.length - i) 0).length = xs.length := by simp; omega
    have hi2 : i < (xs.take i ++ List.replicate (xs.length - i) 0).length := by omega
    simp only [push_cast, ↓reduceIte, Nat.reduceEqDiff, Nat.reduceLT, Nat.reduceLeDiff, Nat.reduceAdd, Nat.reduceMul, Nat.reduceSub, Nat.reduceDiv, Nat.reduceMod, Nat.reduceBEq, reduceCtorEq, Int.toNat_natCast, Int.reduceToNat, Option.some.injEq, Nat.le_refl, List.take_length, getD_map hi, getD_map hi2, intR]
    repeat (first | refine And.intro (by omega) ?_ | refine And.intro ⟨by omega, by omega⟩ ?_ | refine And.intro ⟨by omega, by omega, by omega⟩ ?_)
    refine ⟨i + 1, ?_, by omega, by omega⟩
    rw [wrap64 (by omega) (by omega)]
    rw [modf intR _ i xs[i] (fun a => rfl), copy_step 0 hi]
    simp
  · have hi : i = xs.length := by omega
    subst hi
    have e : xs.take xs.length ++ List.replicate (xs.length - xs.length) 0 = xs := by simp
    rw [e]
    simp only [push_cast, ↓reduceIte, Nat.reduceEqDiff, Nat.reduceLT, Nat.reduceLeDiff, Nat.reduceAdd, Nat.reduceMul, Nat.reduceSub, Nat.reduceDiv, Nat.reduceMod, Nat.reduceBEq, reduceCtorEq, Int.toNat_natCast, Int.reduceToNat, Option.some.injEq, Nat.le_refl, List.take_length]
    try rw [show xs.length = (xs.map intR).length by simp, List.take_length]

noncomputable def c_laws_toRing : ACode := (.seq (.reg false [⟨none, .box 1 (.t 0), []⟩, ⟨none, .alloc 2 [.i .i64 0, .nl 1], []⟩] [1, 2, 10001, 10002]) (.seq (.reg false [⟨none, .alloc 3 [.i .i64 0, .nl 1], []⟩] [1, 2, 3, 10001, 10002, 10003]) (.seq (.reg false [⟨none, .p 4 (.fa (.t 1) 0 0), []⟩, ⟨none, .p 5 (.ld (.t 4) 0 1 false), []⟩, ⟨none, .p 6 (.fa (.t 3) 0 0), []⟩, ⟨none, .st (.t 6) (.t 5) 1, []⟩] [1, 2, 3, 10001, 10002, 10003]) (.seq (.reg false [⟨none, .p 7 (.fa (.t 1) 0 1), []⟩, ⟨none, .p 8 (.ld (.t 7) 0 1 false), []⟩, ⟨none, .call (some 9) 29 [.rd (.t 8)], []⟩, ⟨none, .p 10 (.fa (.t 3) 0 1), []⟩, ⟨none, .st (.t 10) (.t 9) 1, []⟩] [2, 3, 10002, 10003]) (.seq (.reg false [⟨none, .p 11 (.ld (.t 3) 0 2 true), []⟩, ⟨none, .st (.t 2) (.t 11) 2, []⟩] [2, 10002]) .ret)))))
theorem code_laws_toRing : ∃ c, Tryz.f100.body = some c ∧ cfit PP 12 c c_laws_toRing = true := by
  refine ⟨_, (rfl : Tryz.f100.body = some _), ?_⟩
  kernel_rfl
theorem t_toRing {G : Glob} (a : XRing) (hm : a.ms ≤ 1048576) : FnD PP G 100 [.val true a.vw] [] [] [.v true a.own] [] [] := by
  obtain ⟨cc, hb, hcf⟩ := code_laws_toRing
  refine fn_ok (fn := Tryz.f100) (specs := [.c 2 2]) (by kernel_rfl) hb (by show (12:Nat) ≤ 10000; omega) hcf (by kernel_rfl) (by show (1:Nat) ≤ 12; omega) (by simp) (by simp) rfl rfl (by simp) rfl ?_
  simp only [c_laws_toRing]
  simp only [XRing.ms] at hm
  simp only [XRing.vw, XRing.own]
  simp only [push_cast, ↓reduceIte, Nat.reduceEqDiff, Nat.reduceLT, Nat.reduceLeDiff, Nat.reduceAdd, Nat.reduceMul, Nat.reduceSub, Nat.reduceDiv, Nat.reduceMod, Nat.reduceBEq, reduceCtorEq, Int.toNat_natCast, Int.reduceToNat, Option.some.injEq, Nat.le_refl, List.take_length]
  have hc := t_toIntS (G := G) a.Members (by omega)
  refine call_ok hc ?_
  clear hc
  simp only [push_cast, ↓reduceIte, Nat.reduceEqDiff, Nat.reduceLT, Nat.reduceLeDiff, Nat.reduceAdd, Nat.reduceMul, Nat.reduceSub, Nat.reduceDiv, Nat.reduceMod, Nat.reduceBEq, reduceCtorEq, Int.toNat_natCast, Int.reduceToNat, Option.some.injEq, Nat.le_refl, List.take_length]

noncomputable def c_laws_toRingS : ACode := (.seq (.reg false [⟨none, .tk 2 (.k (.nl 2)), []⟩] [0]) (.seq (.reg false [⟨none, .p 5 (.mv (.t 0)), []⟩, ⟨none, .p 6 (.len false (.t 5)), []⟩, ⟨none, .mks 7 (.t 6) (.t 6) [.i .i64 0, .nl 1] 32, []⟩, ⟨none, .asg 3 (.t 7), []⟩] [0, 3]) (.seq (.seq (.reg false [⟨none, .asg 4 (.k (.i .i64 0)), []⟩] [0, 3, 4]) (.block 0 (.loop [0, 3, 4] (.seq (.seq (.reg false [⟨none, .p 8 (.mv (.t 4)), []⟩, ⟨none, .p 9 (.mv (.t 0)), []⟩, ⟨none, .p 10 (.len false (.t 9)), []⟩, ⟨none, .p 11 (.bin .lss (.t 8) (.t 10)), []⟩] [0, 3, 4, 11]) (.cond (.t 11) .skip (.exit 0 [3]))) (.seq (.block 1 (.reg false [⟨none, .p 14 (.mv (.t 3)), []⟩, ⟨none, .p 15 (.mv (.t 4)), []⟩, ⟨none, .p 16 (.mv (.t 0)), []⟩, ⟨none, .p 17 (.mv (.t 4)), []⟩, ⟨none, .p 18 (.ia (.t 16) (.t 17) 2), []⟩, ⟨none, .p 19 (.ld (.t 18) 0 2 true), []⟩, ⟨none, .call (some 20) 100 [.rd (.t 19)], []⟩, ⟨none, .p 21 (.ia (.t 14) (.t 15) 2), []⟩, ⟨none, .st (.t 21) (.t 20) 2, []⟩] [0, 3, 4])) (.reg false [⟨none, .p 12 (.mv (.t 4)), []⟩, ⟨none, .p 13 (.bin .add (.t 12) (.k (.i .i64 1))), []⟩, ⟨none, .asg 4 (.t 13), []⟩] [0, 3, 4])))))) (.seq (.reg false [⟨none, .p 22 (.mv (.t 3)), []⟩, ⟨none, .tk 2 (.t 22), []⟩] [2]) .ret))))
theorem code_laws_toRingS : ∃ c, Tryz.f59.body = some c ∧ cfit PP 23 c c_laws_toRingS = true := by
  refine ⟨_, (rfl : Tryz.f59.body = some _), ?_⟩
  kernel_rfl
theorem t_toRingS {G : Glob} (xs : List XRing) (hm : msL XRing.ms xs ≤ 1048576) : FnD PP G 59 [.val false [.vw none [] (.sl .ow 2 (xs.map XRing.row))]] [] [] [.v false [.ow (.sl .ow 2 (xs.map XRing.row))]] [] [] := by
  obtain ⟨cc, hb, hcf⟩ := code_laws_toRingS
  refine fn_ok (fn := Tryz.f59) (specs := [.t 2]) (by kernel_rfl) hb (by show (23:Nat) ≤ 10000; omega) hcf (by kernel_rfl) (by show (1:Nat) ≤ 23; omega) (by simp) (by simp) rfl rfl (by simp) rfl ?_
  simp only [c_laws_toRingS]
  try simp only [msL] at hm
  simp only [push_cast, ↓reduceIte, Nat.reduceEqDiff, Nat.reduceLT, Nat.reduceLeDiff, Nat.reduceAdd, Nat.reduceMul, Nat.reduceSub, Nat.reduceDiv, Nat.reduceMod, Nat.reduceBEq, reduceCtorEq, Int.toNat_natCast, Int.reduceToNat, Option.some.injEq, Nat.le_refl, List.take_length]
  refine ⟨⟨by omega, by omega, by omega⟩, ?_⟩
  have hrep : List.replicate xs.length [T.lit (.int .i64 0), T.sl .ow 1 []] = (xs.take 0 ++ List.replicate (xs.length - 0) XRing.zero).map XRing.row := by
    simp only [List.take_zero, List.nil_append, Nat.sub_zero, List.map_replicate]
    rfl
  rw [hrep]
  clear hrep
  refine cwp_loop (fun i : Nat => ⟨[(0, .val false [.vw none [] (.sl .ow 2 (xs.map XRing.row))]), (3, .val false [.ow (.sl .ow 2 ((xs.take i ++ List.replicate (xs.length - i) XRing.zero).map XRing.row))]), (4, .val false [.ow (.lit (.int .i64 i))])], []⟩)
    (fun i => i ≤ xs.length) (fun i => xs.length - i) 0 rfl (by simp [St.norm, nmL, nmA, nmC, St.get, getL, keyB, nmPl, nmKs]) (by omega) ?_
  intro i hle
  simp only [push_cast, ↓reduceIte, Nat.reduceEqDiff, Nat.reduceLT, Nat.reduceLeDiff, Nat.reduceAdd, Nat.reduceMul, Nat.reduceSub, Nat.reduceDiv, Nat.reduceMod, Nat.reduceBEq, reduceCtorEq, Int.toNat_natCast, Int.reduceToNat, Option.some.injEq, Nat.le_refl, List.take_length]
  refine cnd_dec (fun hlt => ?_) (fun hge => ?_)
  · have hi : i < xs.length := by omega
    have hl : (xs.take i ++ List.replicate (xs.length - i) XRing.zero).length = xs.length := by simp; omega
    have hi2 : i < (xs.take i ++ List.replicate (xs.length - i) XRing.zero).length := by omega
    simp only [push_cast, ↓reduceIte, Nat.reduceEqDiff, Nat.reduceLT, Nat.reduceLeDiff, Nat.reduceAdd, Nat.reduceMul, Nat.reduceSub, Nat.reduceDiv, Nat.reduceMod, Nat.reduceBEq, reduceCtorEq, Int.toNat_natCast, Int.reduceToNat, Option.some.injEq, Nat.le_refl, List.take_length, getD_map hi, XRing.row]
    refine ⟨⟨by omega, by omega⟩, ?_⟩
    have hc := t_toRing (G := G) xs[i] (by have := sum_mem XRing.ms xs i hi; omega)
    simp only [XRing.vw, XRing.own] at hc
    refine call_ok hc ?_
    clear hc
    simp only [push_cast, ↓reduceIte, Nat.reduceEqDiff, Nat.reduceLT, Nat.reduceLeDiff, Nat.reduceAdd, Nat.reduceMul, Nat.reduceSub, Nat.reduceDiv, Nat.reduceMod, Nat.reduceBEq, reduceCtorEq, Int.toNat_natCast, Int.reduceToNat, Option.some.injEq, Nat.le_refl, List.take_length, getD_map hi2, XRing.row]
    repeat (first | refine And.intro (by omega) ?_ | refine And.intro ⟨by omega, by omega⟩ ?_ | refine And.intro ⟨by omega, by omega, by omega⟩ ?_)
    refine ⟨i + 1, ?_, by omega, by omega⟩
    rw [wrap64 (by omega) (by omega)]
    rw [modf XRing.row _ i xs[i] (fun a => rfl), copy_step XRing.zero hi]
    simp
  · have hi : i = xs.length := by omega
    subst hi
    have e : xs.take xs.length ++ List.replicate (xs.length - xs.length) XRing.zero = xs := by simp
    rw [e]
    simp only [push_cast, ↓reduceIte, Nat.reduceEqDiff, Nat.reduceLT, Nat.reduceLeDiff, Nat.reduceAdd, Nat.reduceMul, Nat.reduceSub, Nat.reduceDiv, Nat.reduceMod, Nat.reduceBEq, reduceCtorEq, Int.toNat_natCast, Int.reduceToNat, Option.some.injEq, Nat.le_refl, List.take_length]
    try rw [show xs.length = (xs.map XRing.row).length by simp, List.take_length]

noncomputable def c_laws_toItem : ACode := (.seq (.reg false [⟨none, .box 1 (.t 0), []⟩, ⟨none, .alloc 2 [.i .i64 0, .i .i64 0, .i .i64 0, .s emp], []⟩] [1, 2, 10001, 10002]) (.seq (.reg false [⟨none, .alloc 3 [.i .i64 0, .i .i64 0, .i .i64 0, .s emp], []⟩] [1, 2, 3, 10001, 10002, 10003]) (.seq (.reg false [⟨none, .p 4 (.fa (.t 1) 0 0), []⟩, ⟨none, .p 5 (.ld (.t 4) 0 1 false), []⟩, ⟨none, .p 6 (.fa (.t 3) 0 0), []⟩, ⟨none, .st (.t 6) (.t 5) 1, []⟩] [1, 2, 3, 10001, 10002, 10003]) (.seq (.reg false [⟨none, .p 7 (.fa (.t 1) 0 1), []⟩, ⟨none, .p 8 (.ld (.t 7) 0 1 false), []⟩, ⟨none, .p 9 (.fa (.t 3) 0 1), []⟩, ⟨none, .st (.t 9) (.t 8) 1, []⟩] [1, 2, 3, 10001, 10002, 10003]) (.seq (.reg false [⟨none, .p 10 (.fa (.t 1) 0 2), []⟩, ⟨none, .p 11 (.ld (.t 10) 0 1 false), []⟩, ⟨none, .p 12 (.fa (.t 3) 0 2), []⟩, ⟨none, .st (.t 12) (.t 11) 1, []⟩] [1, 2, 3, 10001, 10002, 10003]) (.seq (.reg false [⟨none, .p 13 (.fa (.t 1) 0 3), []⟩, ⟨none, .p 14 (.ld (.t 13) 0 1 false), []⟩, ⟨none, .p 15 (.fa (.t 3) 0 3), []⟩, ⟨none, .st (.t 15) (.t 14) 1, []⟩] [2, 3, 10002, 10003]) (.seq (.reg false [⟨none, .p 16 (.ld (.t 3) 0 4 true), []⟩, ⟨none, .st (.t 2) (.t 16) 4, []⟩] [2, 10002]) .ret)))))))
theorem code_laws_toItem : ∃ c, Tryz.f146.body = some c ∧ cfit PP 17 c c_laws_toItem = true := by
  refine ⟨_, (rfl : Tryz.f146.body = some _), ?_⟩
  kernel_rfl
theorem t_toItem {G : Glob} (a : XItem) (hm : a.ms ≤ 1048576) : FnD PP G 146 [.val true a.vw] [] [] [.v true a.own] [] [] := by
  obtain ⟨cc, hb, hcf⟩ := code_laws_toItem
  refine fn_ok (fn := Tryz.f146) (specs := [.c 2 4]) (by kernel_rfl) hb (by show (17:Nat) ≤ 10000; omega) hcf (by kernel_rfl) (by show (1:Nat) ≤ 17; omega) (by simp) (by simp) rfl rfl (by simp) rfl ?_
  simp only [c_laws_toItem]
  simp only [XItem.ms] at hm
  simp only [XItem.vw, XItem.own]
  simp only [push_cast, ↓reduceIte, Nat.reduceEqDiff, Nat.reduceLT, Nat.reduceLeDiff, Nat.reduceAdd, Nat.reduceMul, Nat.reduceSub, Nat.reduceDiv, Nat.reduceMod, Nat.reduceBEq, reduceCtorEq, Int.toNat_natCast, Int.reduceToNat, Option.some.injEq, Nat.le_refl, List.take_length]

noncomputable def c_laws_toItemS : ACode := (.seq (.reg false [⟨none, .tk 2 (.k (.nl 4)), []⟩] [0]) (.seq (.reg false [⟨none, .p 5 (.mv (.t 0)), []⟩, ⟨none, .p 6 (.len false (.t 5)), []⟩, ⟨none, .mks 7 (.t 6) (.t 6) [.i .i64 0, .i .i64 0, .i .i64 0, .s emp] 40, []⟩, ⟨none, .asg 3 (.t 7), []⟩] [0, 3]) (.seq (.seq (.reg false [⟨none, .asg 4 (.k (.i .i64 0)), []⟩] [0, 3, 4]) (.block 0 (.loop [0, 3, 4] (.seq (.seq (.reg false [⟨none, .p 8 (.mv (.t 4)), []⟩, ⟨none, .p 9 (.mv (.t 0)), []⟩, ⟨none, .p 10 (.len false (.t 9)), []⟩, ⟨none, .p 11 (.bin .lss (.t 8) (.t 10)), []⟩] [0, 3, 4, 11]) (.cond (.t 11) .skip (.exit 0 [3]))) (.seq (.block 1 (.reg false [⟨none, .p 14 (.mv (.t 3)), []⟩, ⟨none, .p 15 (.mv (.t 4)), []⟩, ⟨none, .p 16 (.mv (.t 0)), []⟩, ⟨none, .p 17 (.mv (.t 4)), []⟩, ⟨none, .p 18 (.ia (.t 16) (.t 17) 4), []⟩, ⟨none, .p 19 (.ld (.t 18) 0 4 true), []⟩, ⟨none, .call (some 20) 146 [.rd (.t 19)], []⟩, ⟨none, .p 21 (.ia (.t 14) (.t 15) 4), []⟩, ⟨none, .st (.t 21) (.t 20) 4, []⟩] [0, 3, 4])) (.reg false [⟨none, .p 12 (.mv (.t 4)), []⟩, ⟨none, .p 13 (.bin .add (.t 12) (.k (.i .i64 1))), []⟩, ⟨none, .asg 4 (.t 13), []⟩] [0, 3, 4])))))) (.seq (.reg false [⟨none, .p 22 (.mv (.t 3)), []⟩, ⟨none, .tk 2 (.t 22), []⟩] [2]) .ret))))
theorem code_laws_toItemS : ∃ c, Tryz.f181.body = some c ∧ cfit PP 23 c c_laws_toItemS = true := by
  refine ⟨_, (rfl : Tryz.f181.body = some _), ?_⟩
  kernel_rfl
theorem t_toItemS {G : Glob} (xs : List XItem) (hm : msL XItem.ms xs ≤ 1048576) : FnD PP G 181 [.val false [.vw none [] (.sl .ow 4 (xs.map XItem.row))]] [] [] [.v false [.ow (.sl .ow 4 (xs.map XItem.row))]] [] [] := by
  obtain ⟨cc, hb, hcf⟩ := code_laws_toItemS
  refine fn_ok (fn := Tryz.f181) (specs := [.t 2]) (by kernel_rfl) hb (by show (23:Nat) ≤ 10000; omega) hcf (by kernel_rfl) (by show (1:Nat) ≤ 23; omega) (by simp) (by simp) rfl rfl (by simp) rfl ?_
  simp only [c_laws_toItemS]
  try simp only [msL] at hm
  simp only [push_cast, ↓reduceIte, Nat.reduceEqDiff, Nat.reduceLT, Nat.reduceLeDiff, Nat.reduceAdd, Nat.reduceMul, Nat.reduceSub, Nat.reduceDiv, Nat.reduceMod, Nat.reduceBEq, reduceCtorEq, Int.toNat_natCast, Int.reduceToNat, Option.some.injEq, Nat.le_refl, List.take_length]
  refine ⟨⟨by omega, by omega, by omega⟩, ?_⟩
  have hrep : List.replicate xs.length [T.lit (.int .i64 0), T.lit (.int .i64 0), T.lit (.int .i64 0), T.lit (.string emp)] = (xs.take 0 ++ List.replicate (xs.length - 0) XItem.zero).map XItem.row := by
    simp only [List.take_zero, List.nil_append, Nat.sub_zero, List.map_replicate]
    rfl
  rw [hrep]
  clear hrep
  refine cwp_loop (fun i : Nat => ⟨[(0, .val false [.vw none [] (.sl .ow 4 (xs.map XItem.row))]), (3, .val false [.ow (.sl .ow 4 ((xs.take i ++ List.replicate (xs.length - i) XItem.zero).map XItem.row))]), (4, .val false [.ow (.lit (.int .i64 i))])], []⟩)
    (fun i => i ≤ xs.length) (fun i => xs.length - i) 0 rfl (by simp [St.norm, nmL, nmA, nmC, St.get, getL, keyB, nmPl, nmKs]) (by omega) ?_
  intro i hle
  simp only [push_cast, ↓reduceIte, Nat.reduceEqDiff, Nat.reduceLT, Nat.reduceLeDiff, Nat.reduceAdd, Nat.reduceMul, Nat.reduceSub, Nat.reduceDiv, Nat.reduceMod, Nat.reduceBEq, reduceCtorEq, Int.toNat_natCast, Int.reduceToNat, Option.some.injEq, Nat.le_refl, List.take_length]
  refine cnd_dec (fun hlt => ?_) (fun hge => ?_)
  · have hi : i < xs.length := by omega
    have hl : (xs.take i ++ List.replicate (xs.length - i) XItem.zero).length = xs.length := by simp; omega
    have hi2 : i < (xs.take i ++ List.replicate (xs.length - i) XItem.zero).length := by omega
    simp only [push_cast, ↓reduceIte, Nat.reduceEqDiff, Nat.reduceLT, Nat.reduceLeDiff, Nat.reduceAdd, Nat.reduceMul, Nat.reduceSub, Nat.reduceDiv, Nat.reduceMod, Nat.reduceBEq, reduceCtorEq, Int.toNat_natCast, Int.reduceToNat, Option.some.injEq, Nat.le_refl, List.take_length, getD_map hi, XItem.row]
    refine ⟨⟨by omega, by omega⟩, ?_⟩
    have hc := t_toItem (G := G) xs[i] (by have := sum_mem XItem.ms xs i hi; omega)
    simp only [XItem.vw, XItem.own] at hc
    refine call_ok hc ?_
    clear hc
    simp only [push_cast, ↓reduceIte, Nat.reduceEqDiff, Nat.reduceLT, Nat.reduceLeDiff, Nat.reduceAdd, Nat.reduceMul, Nat.reduceSub, Nat.reduceDiv, Nat.reduceMod, Nat.reduceBEq, reduceCtorEq, Int.toNat_natCast, Int.reduceToNat, Option.some.injEq, Nat.le_refl, List.take_length, getD_map hi2, XItem.row]
    repeat (first | refine And.intro (by omega) ?_ | refine And.intro ⟨by omega, by omega⟩ ?_ | refine And.intro ⟨by omega, by omega, by omega⟩ ?_)
    refine ⟨i + 1, ?_, by omega, by omega⟩
    rw [wrap64 (by omega) (by omega)]
    rw [modf XItem.row _ i xs[i] (fun a => rfl), copy_step XItem.zero hi]
    simp
  · have hi : i = xs.length := by omega
    subst hi
    have e : xs.take xs.length ++ List.replicate (xs.length - xs.length) XItem.zero = xs := by simp
    rw [e]
    simp only [push_cast, ↓reduceIte, Nat.reduceEqDiff, Nat.reduceLT, Nat.reduceLeDiff, Nat.reduceAdd, Nat.reduceMul, Nat.reduceSub, Nat.reduceDiv, Nat.reduceMod, Nat.reduceBEq, reduceCtorEq, Int.toNat_natCast, Int.reduceToNat, Option.some.injEq, Nat.le_refl, List.take_length]
    try rw [show xs.length = (xs.map XItem.row).length by simp, List.take_length]

noncomputable def c_laws_toStringS : ACode := (.seq (.reg false [⟨none, .tk 2 (.k (.nl 1)), []⟩] [0]) (.seq (.reg false [⟨none, .p 5 (.mv (.t 0)), []⟩, ⟨none, .p 6 (.len false (.t 5)), []⟩, ⟨none, .mks 7 (.t 6) (.t 6) [.s emp] 16, []⟩, ⟨none, .asg 3 (.t 7), []⟩] [0, 3]) (.seq (.seq (.reg false [⟨none, .asg 4 (.k (.i .i64 0)), []⟩] [0, 3, 4]) (.block 0 (.loop [0, 3, 4] (.seq (.seq (.reg false [⟨none, .p 8 (.mv (.t 4)), []⟩, ⟨none, .p 9 (.mv (.t 0)), []⟩, ⟨none, .p 10 (.len false (.t 9)), []⟩, ⟨none, .p 11 (.bin .lss (.t 8) (.t 10)), []⟩] [0, 3, 4, 11]) (.cond (.t 11) .skip (.exit 0 [3]))) (.seq (.block 1 (.reg false [⟨none, .p 14 (.mv (.t 3)), []⟩, ⟨none, .p 15 (.mv (.t 4)), []⟩, ⟨none, .p 16 (.mv (.t 0)), []⟩, ⟨none, .p 17 (.mv (.t 4)), []⟩, ⟨none, .p 18 (.ia (.t 16) (.t 17) 1), []⟩, ⟨none, .p 19 (.ld (.t 18) 0 1 false), []⟩, ⟨none, .p 20 (.ia (.t 14) (.t 15) 1), []⟩, ⟨none, .st (.t 20) (.t 19) 1, []⟩] [0, 3, 4])) (.reg false [⟨none, .p 12 (.mv (.t 4)), []⟩, ⟨none, .p 13 (.bin .add (.t 12) (.k (.i .i64 1))), []⟩, ⟨none, .asg 4 (.t 13), []⟩] [0, 3, 4])))))) (.seq (.reg false [⟨none, .p 21 (.mv (.t 3)), []⟩, ⟨none, .tk 2 (.t 21), []⟩] [2]) .ret))))
theorem code_laws_toStringS : ∃ c, Tryz.f106.body = some c ∧ cfit PP 22 c c_laws_toStringS = true := by
  refine ⟨_, (rfl : Tryz.f106.body = some _), ?_⟩
  kernel_rfl
theorem t_toStringS {G : Glob} (xs : List ByteArray) (hm : msL ByteArray.size xs ≤ 1048576) : FnD PP G 106 [.val false [.vw none [] (.sl .ow 1 (xs.map strR))]] [] [] [.v false [.ow (.sl .ow 1 (xs.map strR))]] [] [] := by
  obtain ⟨cc, hb, hcf⟩ := code_laws_toStringS
  refine fn_ok (fn := Tryz.f106) (specs := [.t 2]) (by kernel_rfl) hb (by show (22:Nat) ≤ 10000; omega) hcf (by kernel_rfl) (by show (1:Nat) ≤ 22; omega) (by simp) (by simp) rfl rfl (by simp) rfl ?_
  simp only [c_laws_toStringS]
  try simp only [msL] at hm
  simp only [push_cast, ↓reduceIte, Nat.reduceEqDiff, Nat.reduceLT, Nat.reduceLeDiff, Nat.reduceAdd, Nat.reduceMul, Nat.reduceSub, Nat.reduceDiv, Nat.reduceMod, Nat.reduceBEq, reduceCtorEq, Int.toNat_natCast, Int.reduceToNat, Option.some.injEq, Nat.le_refl, List.take_length]
  refine ⟨⟨by omega, by omega, by omega⟩, ?_⟩
  have hrep : List.replicate xs.length [T.lit (.string emp)] = (xs.take 0 ++ List.replicate (xs.length - 0) emp).map strR := by
    simp only [List.take_zero, List.nil_append, Nat.sub_zero, List.map_replicate]
    rfl
  rw [hrep]
  clear hrep
  refine cwp_loop (fun i : Nat => ⟨[(0, .val false [.vw none [] (.sl .ow 1 (xs.map strR))]), (3, .val false [.ow (.sl .ow 1 ((xs.take i ++ List.replicate (xs.length - i) emp).map strR))]), (4, .val false [.ow (.lit (.int .i64 i))])], []⟩)
    (fun i => i ≤ xs.length) (fun i => xs.length - i) 0 rfl (by simp [St.norm, nmL, nmA, nmC, St.get, getL, keyB, nmPl, nmKs]) (by omega) ?_
  intro i hle
  simp only [push_cast, ↓reduceIte, Nat.reduceEqDiff, Nat.reduceLT, Nat.reduceLeDiff, Nat.reduceAdd, Nat.reduceMul, Nat.reduceSub, Nat.reduceDiv, Nat.reduceMod, Nat.reduceBEq, reduceCtorEq, Int.toNat_natCast, Int.reduceToNat, Option.some.injEq, Nat.le_refl, List.take_length]
  refine cnd_dec (fun hlt => ?_) (fun hge => ?_)
  · have hi : i < xs.length := by omega
    have hl : (xs.take i ++ List.replicate (xs.length - i) emp).length = xs.length := by simp; omega
    have hi2 : i < (xs.take i ++ List.replicate (xs.length - i) emp).length := by omega
    simp only [push_cast, ↓reduceIte, Nat.reduceEqDiff, Nat.reduceLT, Nat.reduceLeDiff, Nat.reduceAdd, Nat.reduceMul, Nat.reduceSub, Nat.reduceDiv, Nat.reduceMod, Nat.reduceBEq, reduceCtorEq, Int.toNat_natCast, Int.reduceToNat, Option.some.injEq, Nat.le_refl, List.take_length, getD_map hi, getD_map hi2, strR]
    repeat (first | refine And.intro (by omega) ?_ | refine And.intro ⟨by omega, by omega⟩ ?_ | refine And.intro ⟨by omega, by omega, by omega⟩ ?_)
    refine ⟨i + 1, ?_, by omega, by omega⟩
    rw [wrap64 (by omega) (by omega)]
    rw [modf strR _ i xs[i] (fun a => rfl), copy_step emp hi]
    simp
  · have hi : i = xs.length := by omega
    subst hi
    have e : xs.take xs.length ++ List.replicate (xs.length - xs.length) emp = xs := by simp
    rw [e]
    simp only [push_cast, ↓reduceIte, Nat.reduceEqDiff, Nat.reduceLT, Nat.reduceLeDiff, Nat.reduceAdd, Nat.reduceMul, Nat.reduceSub, Nat.reduceDiv, Nat.reduceMod, Nat.reduceBEq, reduceCtorEq, Int.toNat_natCast, Int.reduceToNat, Option.some.injEq, Nat.le_refl, List.take_length]
    try rw [show xs.length = (xs.map strR).length by simp, List.take_length]

noncomputable def c_laws_toToken : ACode := (.seq (.reg false [⟨none, .box 1 (.t 0), []⟩, ⟨none, .alloc 2 [.i .i64 0, .i .i64 0, .i .i64 0, .i .i64 0, .i .i64 0, .nl 1], []⟩] [1, 2, 10001, 10002]) (.seq (.reg false [⟨none, .alloc 3 [.i .i64 0, .i .i64 0, .i .i64 0, .i .i64 0, .i .i64 0, .nl 1], []⟩] [1, 2, 3, 10001, 10002, 10003]) (.seq (.reg false [⟨none, .p 4 (.fa (.t 1) 0 0), []⟩, ⟨none, .p 5 (.ld (.t 4) 0 1 false), []⟩, ⟨none, .p 6 (.fa (.t 3) 0 0), []⟩, ⟨none, .st (.t 6) (.t 5) 1, []⟩] [1, 2, 3, 10001, 10002, 10003]) (.seq (.reg false [⟨none, .p 7 (.fa (.t 1) 0 1), []⟩, ⟨none, .p 8 (.ld (.t 7) 0 1 false), []⟩, ⟨none, .p 9 (.fa (.t 3) 0 1), []⟩, ⟨none, .st (.t 9) (.t 8) 1, []⟩] [1, 2, 3, 10001, 10002, 10003]) (.seq (.reg false [⟨none, .p 10 (.fa (.t 1) 0 2), []⟩, ⟨none, .p 11 (.ld (.t 10) 0 1 false), []⟩, ⟨none, .p 12 (.fa (.t 3) 0 2), []⟩, ⟨none, .st (.t 12) (.t 11) 1, []⟩] [1, 2, 3, 10001, 10002, 10003]) (.seq (.reg false [⟨none, .p 13 (.fa (.t 1) 0 3), []⟩, ⟨none, .p 14 (.ld (.t 13) 0 1 false), []⟩, ⟨none, .p 15 (.fa (.t 3) 0 3), []⟩, ⟨none, .st (.t 15) (.t 14) 1, []⟩] [1, 2, 3, 10001, 10002, 10003]) (.seq (.reg false [⟨none, .p 16 (.fa (.t 1) 0 4), []⟩, ⟨none, .p 17 (.ld (.t 16) 0 1 false), []⟩, ⟨none, .p 18 (.fa (.t 3) 0 4), []⟩, ⟨none, .st (.t 18) (.t 17) 1, []⟩] [1, 2, 3, 10001, 10002, 10003]) (.seq (.reg false [⟨none, .p 19 (.fa (.t 1) 0 5), []⟩, ⟨none, .p 20 (.ld (.t 19) 0 1 false), []⟩, ⟨none, .call (some 21) 29 [.rd (.t 20)], []⟩, ⟨none, .p 22 (.fa (.t 3) 0 5), []⟩, ⟨none, .st (.t 22) (.t 21) 1, []⟩] [2, 3, 10002, 10003]) (.seq (.reg false [⟨none, .p 23 (.ld (.t 3) 0 6 true), []⟩, ⟨none, .st (.t 2) (.t 23) 6, []⟩] [2, 10002]) .ret)))))))))
theorem code_laws_toToken : ∃ c, Tryz.f147.body = some c ∧ cfit PP 24 c c_laws_toToken = true := by
  refine ⟨_, (rfl : Tryz.f147.body = some _), ?_⟩
  kernel_rfl
theorem t_toToken {G : Glob} (a : XToken) (hm : a.ms ≤ 1048576) : FnD PP G 147 [.val true a.vw] [] [] [.v true a.own] [] [] := by
  obtain ⟨cc, hb, hcf⟩ := code_laws_toToken
  refine fn_ok (fn := Tryz.f147) (specs := [.c 2 6]) (by kernel_rfl) hb (by show (24:Nat) ≤ 10000; omega) hcf (by kernel_rfl) (by show (1:Nat) ≤ 24; omega) (by simp) (by simp) rfl rfl (by simp) rfl ?_
  simp only [c_laws_toToken]
  simp only [XToken.ms] at hm
  simp only [XToken.vw, XToken.own]
  simp only [push_cast, ↓reduceIte, Nat.reduceEqDiff, Nat.reduceLT, Nat.reduceLeDiff, Nat.reduceAdd, Nat.reduceMul, Nat.reduceSub, Nat.reduceDiv, Nat.reduceMod, Nat.reduceBEq, reduceCtorEq, Int.toNat_natCast, Int.reduceToNat, Option.some.injEq, Nat.le_refl, List.take_length]
  have hc := t_toIntS (G := G) a.Wants (by omega)
  refine call_ok hc ?_
  clear hc
  simp only [push_cast, ↓reduceIte, Nat.reduceEqDiff, Nat.reduceLT, Nat.reduceLeDiff, Nat.reduceAdd, Nat.reduceMul, Nat.reduceSub, Nat.reduceDiv, Nat.reduceMod, Nat.reduceBEq, reduceCtorEq, Int.toNat_natCast, Int.reduceToNat, Option.some.injEq, Nat.le_refl, List.take_length]

noncomputable def c_laws_toMate : ACode := (.seq (.reg false [⟨none, .box 1 (.t 0), []⟩, ⟨none, .alloc 2 [.i .i64 0, .i .i64 0, .nl 1, .nl 4, .nl 1, .nl 1, .i .i64 0, .i .i64 0, .i .i64 0, .i .i64 0, .i .i64 0, .i .i64 0, .i .i64 0, .i .i64 0, .i .i64 0, .nl 1], []⟩] [1, 2, 10001, 10002]) (.seq (.reg false [⟨none, .alloc 3 [.i .i64 0, .i .i64 0, .nl 1, .nl 4, .nl 1, .nl 1, .i .i64 0, .i .i64 0, .i .i64 0, .i .i64 0, .i .i64 0, .i .i64 0, .i .i64 0, .i .i64 0, .i .i64 0, .nl 1], []⟩] [1, 2, 3, 10001, 10002, 10003]) (.seq (.reg false [⟨none, .p 4 (.fa (.t 1) 0 0), []⟩, ⟨none, .p 5 (.ld (.t 4) 0 1 false), []⟩, ⟨none, .p 6 (.fa (.t 3) 0 0), []⟩, ⟨none, .st (.t 6) (.t 5) 1, []⟩] [1, 2, 3, 10001, 10002, 10003]) (.seq (.reg false [⟨none, .p 7 (.fa (.t 1) 0 1), []⟩, ⟨none, .p 8 (.ld (.t 7) 0 2 true), []⟩, ⟨none, .call (some 9) 100 [.rd (.t 8)], []⟩, ⟨none, .p 10 (.fa (.t 3) 0 1), []⟩, ⟨none, .st (.t 10) (.t 9) 2, []⟩] [1, 2, 3, 10001, 10002, 10003]) (.seq (.reg false [⟨none, .p 11 (.fa (.t 1) 0 3), []⟩, ⟨none, .p 12 (.ld (.t 11) 0 1 false), []⟩, ⟨none, .call (some 13) 181 [.rd (.t 12)], []⟩, ⟨none, .p 14 (.fa (.t 3) 0 3), []⟩, ⟨none, .st (.t 14) (.t 13) 1, []⟩] [1, 2, 3, 10001, 10002, 10003]) (.seq (.reg false [⟨none, .p 15 (.fa (.t 1) 0 4), []⟩, ⟨none, .p 16 (.ld (.t 15) 0 1 false), []⟩, ⟨none, .call (some 17) 29 [.rd (.t 16)], []⟩, ⟨none, .p 18 (.fa (.t 3) 0 4), []⟩, ⟨none, .st (.t 18) (.t 17) 1, []⟩] [1, 2, 3, 10001, 10002, 10003]) (.seq (.reg false [⟨none, .p 19 (.fa (.t 1) 0 5), []⟩, ⟨none, .p 20 (.ld (.t 19) 0 1 false), []⟩, ⟨none, .call (some 21) 106 [.rd (.t 20)], []⟩, ⟨none, .p 22 (.fa (.t 3) 0 5), []⟩, ⟨none, .st (.t 22) (.t 21) 1, []⟩] [1, 2, 3, 10001, 10002, 10003]) (.seq (.reg false [⟨none, .p 23 (.fa (.t 1) 0 6), []⟩, ⟨none, .p 24 (.ld (.t 23) 0 1 false), []⟩, ⟨none, .p 25 (.fa (.t 3) 0 6), []⟩, ⟨none, .st (.t 25) (.t 24) 1, []⟩] [1, 2, 3, 10001, 10002, 10003]) (.seq (.reg false [⟨none, .p 26 (.fa (.t 1) 0 7), []⟩, ⟨none, .p 27 (.ld (.t 26) 0 1 false), []⟩, ⟨none, .p 28 (.fa (.t 3) 0 7), []⟩, ⟨none, .st (.t 28) (.t 27) 1, []⟩] [1, 2, 3, 10001, 10002, 10003]) (.seq (.reg false [⟨none, .p 29 (.fa (.t 1) 0 8), []⟩, ⟨none, .p 30 (.ld (.t 29) 0 1 false), []⟩, ⟨none, .p 31 (.fa (.t 3) 0 8), []⟩, ⟨none, .st (.t 31) (.t 30) 1, []⟩] [1, 2, 3, 10001, 10002, 10003]) (.seq (.reg false [⟨none, .p 32 (.fa (.t 1) 0 9), []⟩, ⟨none, .p 33 (.ld (.t 32) 0 1 false), []⟩, ⟨none, .p 34 (.fa (.t 3) 0 9), []⟩, ⟨none, .st (.t 34) (.t 33) 1, []⟩] [1, 2, 3, 10001, 10002, 10003]) (.seq (.reg false [⟨none, .p 35 (.fa (.t 1) 0 10), []⟩, ⟨none, .p 36 (.ld (.t 35) 0 6 true), []⟩, ⟨none, .call (some 37) 147 [.rd (.t 36)], []⟩, ⟨none, .p 38 (.fa (.t 3) 0 10), []⟩, ⟨none, .st (.t 38) (.t 37) 6, []⟩] [2, 3, 10002, 10003]) (.seq (.reg false [⟨none, .p 39 (.ld (.t 3) 0 16 true), []⟩, ⟨none, .st (.t 2) (.t 39) 16, []⟩] [2, 10002]) .ret)))))))))))))
theorem code_laws_toMate : ∃ c, Tryz.f144.body = some c ∧ cfit PP 40 c c_laws_toMate = true := by
  refine ⟨_, (rfl : Tryz.f144.body = some _), ?_⟩
  kernel_rfl
theorem t_toMate {G : Glob} (a : XMate) (hm : a.ms ≤ 1048576) : FnD PP G 144 [.val true a.vw] [] [] [.v true a.own] [] [] := by
  obtain ⟨cc, hb, hcf⟩ := code_laws_toMate
  refine fn_ok (fn := Tryz.f144) (specs := [.c 2 16]) (by kernel_rfl) hb (by show (40:Nat) ≤ 10000; omega) hcf (by kernel_rfl) (by show (1:Nat) ≤ 40; omega) (by simp) (by simp) rfl rfl (by simp) rfl ?_
  simp only [c_laws_toMate]
  simp only [XMate.ms] at hm
  simp only [XMate.vw, XMate.own]
  simp only [push_cast, ↓reduceIte, Nat.reduceEqDiff, Nat.reduceLT, Nat.reduceLeDiff, Nat.reduceAdd, Nat.reduceMul, Nat.reduceSub, Nat.reduceDiv, Nat.reduceMod, Nat.reduceBEq, reduceCtorEq, Int.toNat_natCast, Int.reduceToNat, Option.some.injEq, Nat.le_refl, List.take_length]
  have hc := t_toRing (G := G) a.Ring (by omega)
  simp only [XRing.vw, XRing.own] at hc
  refine call_ok hc ?_
  clear hc
  simp only [push_cast, ↓reduceIte, Nat.reduceEqDiff, Nat.reduceLT, Nat.reduceLeDiff, Nat.reduceAdd, Nat.reduceMul, Nat.reduceSub, Nat.reduceDiv, Nat.reduceMod, Nat.reduceBEq, reduceCtorEq, Int.toNat_natCast, Int.reduceToNat, Option.some.injEq, Nat.le_refl, List.take_length]
  have hc := t_toItemS (G := G) a.Items (by omega)
  refine call_ok hc ?_
  clear hc
  simp only [push_cast, ↓reduceIte, Nat.reduceEqDiff, Nat.reduceLT, Nat.reduceLeDiff, Nat.reduceAdd, Nat.reduceMul, Nat.reduceSub, Nat.reduceDiv, Nat.reduceMod, Nat.reduceBEq, reduceCtorEq, Int.toNat_natCast, Int.reduceToNat, Option.some.injEq, Nat.le_refl, List.take_length]
  have hc := t_toIntS (G := G) a.Level (by omega)
  refine call_ok hc ?_
  clear hc
  simp only [push_cast, ↓reduceIte, Nat.reduceEqDiff, Nat.reduceLT, Nat.reduceLeDiff, Nat.reduceAdd, Nat.reduceMul, Nat.reduceSub, Nat.reduceDiv, Nat.reduceMod, Nat.reduceBEq, reduceCtorEq, Int.toNat_natCast, Int.reduceToNat, Option.some.injEq, Nat.le_refl, List.take_length]
  have hc := t_toStringS (G := G) a.Texts (by omega)
  refine call_ok hc ?_
  clear hc
  simp only [push_cast, ↓reduceIte, Nat.reduceEqDiff, Nat.reduceLT, Nat.reduceLeDiff, Nat.reduceAdd, Nat.reduceMul, Nat.reduceSub, Nat.reduceDiv, Nat.reduceMod, Nat.reduceBEq, reduceCtorEq, Int.toNat_natCast, Int.reduceToNat, Option.some.injEq, Nat.le_refl, List.take_length]
  have hc := t_toToken (G := G) a.Last (by omega)
  simp only [XToken.vw, XToken.own] at hc
  refine call_ok hc ?_
  clear hc
  simp only [push_cast, ↓reduceIte, Nat.reduceEqDiff, Nat.reduceLT, Nat.reduceLeDiff, Nat.reduceAdd, Nat.reduceMul, Nat.reduceSub, Nat.reduceDiv, Nat.reduceMod, Nat.reduceBEq, reduceCtorEq, Int.toNat_natCast, Int.reduceToNat, Option.some.injEq, Nat.le_refl, List.take_length]

noncomputable def c_laws_toBundle : ACode := (.seq (.reg false [⟨none, .box 1 (.t 0), []⟩, ⟨none, .alloc 2 [.i .i64 0, .i .i64 0, .i .i64 0, .nl 4], []⟩] [1, 2, 10001, 10002]) (.seq (.reg false [⟨none, .alloc 3 [.i .i64 0, .i .i64 0, .i .i64 0, .nl 4], []⟩] [1, 2, 3, 10001, 10002, 10003]) (.seq (.reg false [⟨none, .p 4 (.fa (.t 1) 0 0), []⟩, ⟨none, .p 5 (.ld (.t 4) 0 1 false), []⟩, ⟨none, .p 6 (.fa (.t 3) 0 0), []⟩, ⟨none, .st (.t 6) (.t 5) 1, []⟩] [1, 2, 3, 10001, 10002, 10003]) (.seq (.reg false [⟨none, .p 7 (.fa (.t 1) 0 1), []⟩, ⟨none, .p 8 (.ld (.t 7) 0 1 false), []⟩, ⟨none, .p 9 (.fa (.t 3) 0 1), []⟩, ⟨none, .st (.t 9) (.t 8) 1, []⟩] [1, 2, 3, 10001, 10002, 10003]) (.seq (.reg false [⟨none, .p 10 (.fa (.t 1) 0 2), []⟩, ⟨none, .p 11 (.ld (.t 10) 0 1 false), []⟩, ⟨none, .p 12 (.fa (.t 3) 0 2), []⟩, ⟨none, .st (.t 12) (.t 11) 1, []⟩] [1, 2, 3, 10001, 10002, 10003]) (.seq (.reg false [⟨none, .p 13 (.fa (.t 1) 0 3), []⟩, ⟨none, .p 14 (.ld (.t 13) 0 1 false), []⟩, ⟨none, .call (some 15) 181 [.rd (.t 14)], []⟩, ⟨none, .p 16 (.fa (.t 3) 0 3), []⟩, ⟨none, .st (.t 16) (.t 15) 1, []⟩] [2, 3, 10002, 10003]) (.seq (.reg false [⟨none, .p 17 (.ld (.t 3) 0 4 true), []⟩, ⟨none, .st (.t 2) (.t 17) 4, []⟩] [2, 10002]) .ret)))))))
theorem code_laws_toBundle : ∃ c, Tryz.f148.body = some c ∧ cfit PP 18 c c_laws_toBundle = true := by
  refine ⟨_, (rfl : Tryz.f148.body = some _), ?_⟩
  kernel_rfl
theorem t_toBundle {G : Glob} (a : XBundle) (hm : a.ms ≤ 1048576) : FnD PP G 148 [.val true a.vw] [] [] [.v true a.own] [] [] := by
  obtain ⟨cc, hb, hcf⟩ := code_laws_toBundle
  refine fn_ok (fn := Tryz.f148) (specs := [.c 2 4]) (by kernel_rfl) hb (by show (18:Nat) ≤ 10000; omega) hcf (by kernel_rfl) (by show (1:Nat) ≤ 18; omega) (by simp) (by simp) rfl rfl (by simp) rfl ?_
  simp only [c_laws_toBundle]
  simp only [XBundle.ms] at hm
  simp only [XBundle.vw, XBundle.own]
  simp only [push_cast, ↓reduceIte, Nat.reduceEqDiff, Nat.reduceLT, Nat.reduceLeDiff, Nat.reduceAdd, Nat.reduceMul, Nat.reduceSub, Nat.reduceDiv, Nat.reduceMod, Nat.reduceBEq, reduceCtorEq, Int.toNat_natCast, Int.reduceToNat, Option.some.injEq, Nat.le_refl, List.take_length]
  have hc := t_toItemS (G := G) a.Items (by omega)
  refine call_ok hc ?_
  clear hc
  simp only [push_cast, ↓reduceIte, Nat.reduceEqDiff, Nat.reduceLT, Nat.reduceLeDiff, Nat.reduceAdd, Nat.reduceMul, Nat.reduceSub, Nat.reduceDiv, Nat.reduceMod, Nat.reduceBEq, reduceCtorEq, Int.toNat_natCast, Int.reduceToNat, Option.some.injEq, Nat.le_refl, List.take_length]

noncomputable def c_laws_toBundleS : ACode := (.seq (.reg false [⟨none, .tk 2 (.k (.nl 4)), []⟩] [0]) (.seq (.reg false [⟨none, .p 5 (.mv (.t 0)), []⟩, ⟨none, .p 6 (.len false (.t 5)), []⟩, ⟨none, .mks 7 (.t 6) (.t 6) [.i .i64 0, .i .i64 0, .i .i64 0, .nl 4] 48, []⟩, ⟨none, .asg 3 (.t 7), []⟩] [0, 3]) (.seq (.seq (.reg false [⟨none, .asg 4 (.k (.i .i64 0)), []⟩] [0, 3, 4]) (.block 0 (.loop [0, 3, 4] (.seq (.seq (.reg false [⟨none, .p 8 (.mv (.t 4)), []⟩, ⟨none, .p 9 (.mv (.t 0)), []⟩, ⟨none, .p 10 (.len false (.t 9)), []⟩, ⟨none, .p 11 (.bin .lss (.t 8) (.t 10)), []⟩] [0, 3, 4, 11]) (.cond (.t 11) .skip (.exit 0 [3]))) (.seq (.block 1 (.reg false [⟨none, .p 14 (.mv (.t 3)), []⟩, ⟨none, .p 15 (.mv (.t 4)), []⟩, ⟨none, .p 16 (.mv (.t 0)), []⟩, ⟨none, .p 17 (.mv (.t 4)), []⟩, ⟨none, .p 18 (.ia (.t 16) (.t 17) 4), []⟩, ⟨none, .p 19 (.ld (.t 18) 0 4 true), []⟩, ⟨none, .call (some 20) 148 [.rd (.t 19)], []⟩, ⟨none, .p 21 (.ia (.t 14) (.t 15) 4), []⟩, ⟨none, .st (.t 21) (.t 20) 4, []⟩] [0, 3, 4])) (.reg false [⟨none, .p 12 (.mv (.t 4)), []⟩, ⟨none, .p 13 (.bin .add (.t 12) (.k (.i .i64 1))), []⟩, ⟨none, .asg 4 (.t 13), []⟩] [0, 3, 4])))))) (.seq (.reg false [⟨none, .p 22 (.mv (.t 3)), []⟩, ⟨none, .tk 2 (.t 22), []⟩] [2]) .ret))))
theorem code_laws_toBundleS : ∃ c, Tryz.f145.body = some c ∧ cfit PP 23 c c_laws_toBundleS = true := by
  refine ⟨_, (rfl : Tryz.f145.body = some _), ?_⟩
  kernel_rfl
theorem t_toBundleS {G : Glob} (xs : List XBundle) (hm : msL XBundle.ms xs ≤ 1048576) : FnD PP G 145 [.val false [.vw none [] (.sl .ow 4 (xs.map XBundle.row))]] [] [] [.v false [.ow (.sl .ow 4 (xs.map XBundle.row))]] [] [] := by
  obtain ⟨cc, hb, hcf⟩ := code_laws_toBundleS
  refine fn_ok (fn := Tryz.f145) (specs := [.t 2]) (by kernel_rfl) hb (by show (23:Nat) ≤ 10000; omega) hcf (by kernel_rfl) (by show (1:Nat) ≤ 23; omega) (by simp) (by simp) rfl rfl (by simp) rfl ?_
  simp only [c_laws_toBundleS]
  try simp only [msL] at hm
  simp only [push_cast, ↓reduceIte, Nat.reduceEqDiff, Nat.reduceLT, Nat.reduceLeDiff, Nat.reduceAdd, Nat.reduceMul, Nat.reduceSub, Nat.reduceDiv, Nat.reduceMod, Nat.reduceBEq, reduceCtorEq, Int.toNat_natCast, Int.reduceToNat, Option.some.injEq, Nat.le_refl, List.take_length]
  refine ⟨⟨by omega, by omega, by omega⟩, ?_⟩
  have hrep : List.replicate xs.length [T.lit (.int .i64 0), T.lit (.int .i64 0), T.lit (.int .i64 0), T.sl .ow 4 []] = (xs.take 0 ++ List.replicate (xs.length - 0) XBundle.zero).map XBundle.row := by
    simp only [List.take_zero, List.nil_append, Nat.sub_zero, List.map_replicate]
    rfl
  rw [hrep]
  clear hrep
  refine cwp_loop (fun i : Nat => ⟨[(0, .val false [.vw none [] (.sl .ow 4 (xs.map XBundle.row))]), (3, .val false [.ow (.sl .ow 4 ((xs.take i ++ List.replicate (xs.length - i) XBundle.zero).map XBundle.row))]), (4, .val false [.ow (.lit (.int .i64 i))])], []⟩)
    (fun i => i ≤ xs.length) (fun i => xs.length - i) 0 rfl (by simp [St.norm, nmL, nmA, nmC, St.get, getL, keyB, nmPl, nmKs]) (by omega) ?_
  intro i hle
  simp only [push_cast, ↓reduceIte, Nat.reduceEqDiff, Nat.reduceLT, Nat.reduceLeDiff, Nat.reduceAdd, Nat.reduceMul, Nat.reduceSub, Nat.reduceDiv, Nat.reduceMod, Nat.reduceBEq, reduceCtorEq, Int.toNat_natCast, Int.reduceToNat, Option.some.injEq, Nat.le_refl, List.take_length]
  refine cnd_dec (fun hlt => ?_) (fun hge => ?_)
  · have hi : i < xs.length := by omega
    have hl : (xs.take i ++ List.replicate (xs.length - i) XBundle.zero).length = xs.length := by simp; omega
    have hi2 : i < (xs.take i ++ List.replicate (xs.length - i) XBundle.zero).length := by omega
    simp only [push_cast, ↓reduceIte, Nat.reduceEqDiff, Nat.reduceLT, Nat.reduceLeDiff, Nat.reduceAdd, Nat.reduceMul, Nat.reduceSub, Nat.reduceDiv, Nat.reduceMod, Nat.reduceBEq, reduceCtorEq, Int.toNat_natCast, Int.reduceToNat, Option.some.injEq, Nat.le_refl, List.take_length, getD_map hi, XBundle.row]
    refine ⟨⟨by omega, by omega⟩, ?_⟩
    have hc := t_toBundle (G := G) xs[i] (by have := sum_mem XBundle.ms xs i hi; omega)
    simp only [XBundle.vw, XBundle.own] at hc
    refine call_ok hc ?_
    clear hc
    simp only [push_cast, ↓reduceIte, Nat.reduceEqDiff, Nat.reduceLT, Nat.reduceLeDiff, Nat.reduceAdd, Nat.reduceMul, Nat.reduceSub, Nat.reduceDiv, Nat.reduceMod, Nat.reduceBEq, reduceCtorEq, Int.toNat_natCast, Int.reduceToNat, Option.some.injEq, Nat.le_refl, List.take_length, getD_map hi2, XBundle.row]
    repeat (first | refine And.intro (by omega) ?_ | refine And.intro ⟨by omega, by omega⟩ ?_ | refine And.intro ⟨by omega, by omega, by omega⟩ ?_)
    refine ⟨i + 1, ?_, by omega, by omega⟩
    rw [wrap64 (by omega) (by omega)]
    rw [modf XBundle.row _ i xs[i] (fun a => rfl), copy_step XBundle.zero hi]
    simp
  · have hi : i = xs.length := by omega
    subst hi
    have e : xs.take xs.length ++ List.replicate (xs.length - xs.length) XBundle.zero = xs := by simp
    rw [e]
    simp only [push_cast, ↓reduceIte, Nat.reduceEqDiff, Nat.reduceLT, Nat.reduceLeDiff, Nat.reduceAdd, Nat.reduceMul, Nat.reduceSub, Nat.reduceDiv, Nat.reduceMod, Nat.reduceBEq, reduceCtorEq, Int.toNat_natCast, Int.reduceToNat, Option.some.injEq, Nat.le_refl, List.take_length]
    try rw [show xs.length = (xs.map XBundle.row).length by simp, List.take_length]

noncomputable def c_laws_toEvent : ACode := (.seq (.reg false [⟨none, .box 1 (.t 0), []⟩, ⟨none, .alloc 2 [.i .i64 0, .i .i64 0, .nl 1, .i .i64 0, .i .i64 0, .i .i64 0, .s emp, .nl 1], []⟩] [1, 2, 10001, 10002]) (.seq (.reg false [⟨none, .alloc 3 [.i .i64 0, .i .i64 0, .nl 1, .i .i64 0, .i .i64 0, .i .i64 0, .s emp, .nl 1], []⟩] [1, 2, 3, 10001, 10002, 10003]) (.seq (.reg false [⟨none, .p 4 (.fa (.t 1) 0 0), []⟩, ⟨none, .p 5 (.ld (.t 4) 0 1 false), []⟩, ⟨none, .p 6 (.fa (.t 3) 0 0), []⟩, ⟨none, .st (.t 6) (.t 5) 1, []⟩] [1, 2, 3, 10001, 10002, 10003]) (.seq (.reg false [⟨none, .p 7 (.fa (.t 1) 0 1), []⟩, ⟨none, .p 8 (.ld (.t 7) 0 2 true), []⟩, ⟨none, .call (some 9) 100 [.rd (.t 8)], []⟩, ⟨none, .p 10 (.fa (.t 3) 0 1), []⟩, ⟨none, .st (.t 10) (.t 9) 2, []⟩] [1, 2, 3, 10001, 10002, 10003]) (.seq (.reg false [⟨none, .p 11 (.fa (.t 1) 0 3), []⟩, ⟨none, .p 12 (.ld (.t 11) 0 4 true), []⟩, ⟨none, .call (some 13) 146 [.rd (.t 12)], []⟩, ⟨none, .p 14 (.fa (.t 3) 0 3), []⟩, ⟨none, .st (.t 14) (.t 13) 4, []⟩] [1, 2, 3, 10001, 10002, 10003]) (.seq (.reg false [⟨none, .p 15 (.fa (.t 1) 0 7), []⟩, ⟨none, .p 16 (.ld (.t 15) 0 1 false), []⟩, ⟨none, .call (some 17) 29 [.rd (.t 16)], []⟩, ⟨none, .p 18 (.fa (.t 3) 0 7), []⟩, ⟨none, .st (.t 18) (.t 17) 1, []⟩] [2, 3, 10002, 10003]) (.seq (.reg false [⟨none, .p 19 (.ld (.t 3) 0 8 true), []⟩, ⟨none, .st (.t 2) (.t 19) 8, []⟩] [2, 10002]) .ret)))))))
theorem code_laws_toEvent : ∃ c, Tryz.f103.body = some c ∧ cfit PP 20 c c_laws_toEvent = true := by
  refine ⟨_, (rfl : Tryz.f103.body = some _), ?_⟩
  kernel_rfl
theorem t_toEvent {G : Glob} (a : XEvent) (hm : a.ms ≤ 1048576) : FnD PP G 103 [.val true a.vw] [] [] [.v true a.own] [] [] := by
  obtain ⟨cc, hb, hcf⟩ := code_laws_toEvent
  refine fn_ok (fn := Tryz.f103) (specs := [.c 2 8]) (by kernel_rfl) hb (by show (20:Nat) ≤ 10000; omega) hcf (by kernel_rfl) (by show (1:Nat) ≤ 20; omega) (by simp) (by simp) rfl rfl (by simp) rfl ?_
  simp only [c_laws_toEvent]
  simp only [XEvent.ms] at hm
  simp only [XEvent.vw, XEvent.own]
  simp only [push_cast, ↓reduceIte, Nat.reduceEqDiff, Nat.reduceLT, Nat.reduceLeDiff, Nat.reduceAdd, Nat.reduceMul, Nat.reduceSub, Nat.reduceDiv, Nat.reduceMod, Nat.reduceBEq, reduceCtorEq, Int.toNat_natCast, Int.reduceToNat, Option.some.injEq, Nat.le_refl, List.take_length]
  have hc := t_toRing (G := G) a.Ring (by omega)
  simp only [XRing.vw, XRing.own] at hc
  refine call_ok hc ?_
  clear hc
  simp only [push_cast, ↓reduceIte, Nat.reduceEqDiff, Nat.reduceLT, Nat.reduceLeDiff, Nat.reduceAdd, Nat.reduceMul, Nat.reduceSub, Nat.reduceDiv, Nat.reduceMod, Nat.reduceBEq, reduceCtorEq, Int.toNat_natCast, Int.reduceToNat, Option.some.injEq, Nat.le_refl, List.take_length]
  have hc := t_toItem (G := G) a.Item (by omega)
  simp only [XItem.vw, XItem.own] at hc
  refine call_ok hc ?_
  clear hc
  simp only [push_cast, ↓reduceIte, Nat.reduceEqDiff, Nat.reduceLT, Nat.reduceLeDiff, Nat.reduceAdd, Nat.reduceMul, Nat.reduceSub, Nat.reduceDiv, Nat.reduceMod, Nat.reduceBEq, reduceCtorEq, Int.toNat_natCast, Int.reduceToNat, Option.some.injEq, Nat.le_refl, List.take_length]
  have hc := t_toIntS (G := G) a.With (by omega)
  refine call_ok hc ?_
  clear hc
  simp only [push_cast, ↓reduceIte, Nat.reduceEqDiff, Nat.reduceLT, Nat.reduceLeDiff, Nat.reduceAdd, Nat.reduceMul, Nat.reduceSub, Nat.reduceDiv, Nat.reduceMod, Nat.reduceBEq, reduceCtorEq, Int.toNat_natCast, Int.reduceToNat, Option.some.injEq, Nat.le_refl, List.take_length]

noncomputable def c_laws_toEventS : ACode := (.seq (.reg false [⟨none, .tk 2 (.k (.nl 8)), []⟩] [0]) (.seq (.reg false [⟨none, .p 5 (.mv (.t 0)), []⟩, ⟨none, .p 6 (.len false (.t 5)), []⟩, ⟨none, .mks 7 (.t 6) (.t 6) [.i .i64 0, .i .i64 0, .nl 1, .i .i64 0, .i .i64 0, .i .i64 0, .s emp, .nl 1] 104, []⟩, ⟨none, .asg 3 (.t 7), []⟩] [0, 3]) (.seq (.seq (.reg false [⟨none, .asg 4 (.k (.i .i64 0)), []⟩] [0, 3, 4]) (.block 0 (.loop [0, 3, 4] (.seq (.seq (.reg false [⟨none, .p 8 (.mv (.t 4)), []⟩, ⟨none, .p 9 (.mv (.t 0)), []⟩, ⟨none, .p 10 (.len false (.t 9)), []⟩, ⟨none, .p 11 (.bin .lss (.t 8) (.t 10)), []⟩] [0, 3, 4, 11]) (.cond (.t 11) .skip (.exit 0 [3]))) (.seq (.block 1 (.reg false [⟨none, .p 14 (.mv (.t 3)), []⟩, ⟨none, .p 15 (.mv (.t 4)), []⟩, ⟨none, .p 16 (.mv (.t 0)), []⟩, ⟨none, .p 17 (.mv (.t 4)), []⟩, ⟨none, .p 18 (.ia (.t 16) (.t 17) 8), []⟩, ⟨none, .p 19 (.ld (.t 18) 0 8 true), []⟩, ⟨none, .call (some 20) 103 [.rd (.t 19)], []⟩, ⟨none, .p 21 (.ia (.t 14) (.t 15) 8), []⟩, ⟨none, .st (.t 21) (.t 20) 8, []⟩] [0, 3, 4])) (.reg false [⟨none, .p 12 (.mv (.t 4)), []⟩, ⟨none, .p 13 (.bin .add (.t 12) (.k (.i .i64 1))), []⟩, ⟨none, .asg 4 (.t 13), []⟩] [0, 3, 4])))))) (.seq (.reg false [⟨none, .p 22 (.mv (.t 3)), []⟩, ⟨none, .tk 2 (.t 22), []⟩] [2]) .ret))))
theorem code_laws_toEventS : ∃ c, Tryz.f62.body = some c ∧ cfit PP 23 c c_laws_toEventS = true := by
  refine ⟨_, (rfl : Tryz.f62.body = some _), ?_⟩
  kernel_rfl
theorem t_toEventS {G : Glob} (xs : List XEvent) (hm : msL XEvent.ms xs ≤ 1048576) : FnD PP G 62 [.val false [.vw none [] (.sl .ow 8 (xs.map XEvent.row))]] [] [] [.v false [.ow (.sl .ow 8 (xs.map XEvent.row))]] [] [] := by
  obtain ⟨cc, hb, hcf⟩ := code_laws_toEventS
  refine fn_ok (fn := Tryz.f62) (specs := [.t 2]) (by kernel_rfl) hb (by show (23:Nat) ≤ 10000; omega) hcf (by kernel_rfl) (by show (1:Nat) ≤ 23; omega) (by simp) (by simp) rfl rfl (by simp) rfl ?_
  simp only [c_laws_toEventS]
  try simp only [msL] at hm
  simp only [push_cast, ↓reduceIte, Nat.reduceEqDiff, Nat.reduceLT, Nat.reduceLeDiff, Nat.reduceAdd, Nat.reduceMul, Nat.reduceSub, Nat.reduceDiv, Nat.reduceMod, Nat.reduceBEq, reduceCtorEq, Int.toNat_natCast, Int.reduceToNat, Option.some.injEq, Nat.le_refl, List.take_length]
  refine ⟨⟨by omega, by omega, by omega⟩, ?_⟩
  have hrep : List.replicate xs.length [T.lit (.int .i64 0), T.lit (.int .i64 0), T.sl .ow 1 [], T.lit (.int .i64 0), T.lit (.int .i64 0), T.lit (.int .i64 0), T.lit (.string emp), T.sl .ow 1 []] = (xs.take 0 ++ List.replicate (xs.length - 0) XEvent.zero).map XEvent.row := by
    simp only [List.take_zero, List.nil_append, Nat.sub_zero, List.map_replicate]
    rfl
  rw [hrep]
  clear hrep
  refine cwp_loop (fun i : Nat => ⟨[(0, .val false [.vw none [] (.sl .ow 8 (xs.map XEvent.row))]), (3, .val false [.ow (.sl .ow 8 ((xs.take i ++ List.replicate (xs.length - i) XEvent.zero).map XEvent.row))]), (4, .val false [.ow (.lit (.int .i64 i))])], []⟩)
    (fun i => i ≤ xs.length) (fun i => xs.length - i) 0 rfl (by simp [St.norm, nmL, nmA, nmC, St.get, getL, keyB, nmPl, nmKs]) (by omega) ?_
  intro i hle
  simp only [push_cast, ↓reduceIte, Nat.reduceEqDiff, Nat.reduceLT, Nat.reduceLeDiff, Nat.reduceAdd, Nat.reduceMul, Nat.reduceSub, Nat.reduceDiv, Nat.reduceMod, Nat.reduceBEq, reduceCtorEq, Int.toNat_natCast, Int.reduceToNat, Option.some.injEq, Nat.le_refl, List.take_length]
  refine cnd_dec (fun hlt => ?_) (fun hge => ?_)
  · have hi : i < xs.length := by omega
    have hl : (xs.take i ++ List.replicate (xs.length - i) XEvent.zero).length = xs.length := by simp; omega
    have hi2 : i < (xs.take i ++ List.replicate (xs.length - i) XEvent.zero).length := by omega
    simp only [push_cast, ↓reduceIte, Nat.reduceEqDiff, Nat.reduceLT, Nat.reduceLeDiff, Nat.reduceAdd, Nat.reduceMul, Nat.reduceSub, Nat.reduceDiv, Nat.reduceMod, Nat.reduceBEq, reduceCtorEq, Int.toNat_natCast, Int.reduceToNat, Option.some.injEq, Nat.le_refl, List.take_length, getD_map hi, XEvent.row]
    refine ⟨⟨by omega, by omega⟩, ?_⟩
    have hc := t_toEvent (G := G) xs[i] (by have := sum_mem XEvent.ms xs i hi; omega)
    simp only [XEvent.vw, XEvent.own] at hc
    refine call_ok hc ?_
    clear hc
    simp only [push_cast, ↓reduceIte, Nat.reduceEqDiff, Nat.reduceLT, Nat.reduceLeDiff, Nat.reduceAdd, Nat.reduceMul, Nat.reduceSub, Nat.reduceDiv, Nat.reduceMod, Nat.reduceBEq, reduceCtorEq, Int.toNat_natCast, Int.reduceToNat, Option.some.injEq, Nat.le_refl, List.take_length, getD_map hi2, XEvent.row]
    repeat (first | refine And.intro (by omega) ?_ | refine And.intro ⟨by omega, by omega⟩ ?_ | refine And.intro ⟨by omega, by omega, by omega⟩ ?_)
    refine ⟨i + 1, ?_, by omega, by omega⟩
    rw [wrap64 (by omega) (by omega)]
    rw [modf XEvent.row _ i xs[i] (fun a => rfl), copy_step XEvent.zero hi]
    simp
  · have hi : i = xs.length := by omega
    subst hi
    have e : xs.take xs.length ++ List.replicate (xs.length - xs.length) XEvent.zero = xs := by simp
    rw [e]
    simp only [push_cast, ↓reduceIte, Nat.reduceEqDiff, Nat.reduceLT, Nat.reduceLeDiff, Nat.reduceAdd, Nat.reduceMul, Nat.reduceSub, Nat.reduceDiv, Nat.reduceMod, Nat.reduceBEq, reduceCtorEq, Int.toNat_natCast, Int.reduceToNat, Option.some.injEq, Nat.le_refl, List.take_length]
    try rw [show xs.length = (xs.map XEvent.row).length by simp, List.take_length]

noncomputable def c_laws_toDaemon : ACode := (.seq (.reg false [⟨none, .box 1 (.t 0), []⟩, ⟨none, .alloc 2 [.i .i64 0, .b false, .i .i64 0, .i .i64 0, .nl 1, .nl 4, .nl 1, .nl 1, .i .i64 0, .i .i64 0, .i .i64 0, .i .i64 0, .i .i64 0, .i .i64 0, .i .i64 0, .i .i64 0, .i .i64 0, .nl 1, .i .i64 0, .i .i64 0, .i .i64 0, .nl 1, .nl 4, .nl 8], []⟩] [1, 2, 10001, 10002]) (.seq (.reg false [⟨none, .alloc 3 [.i .i64 0, .b false, .i .i64 0, .i .i64 0, .nl 1, .nl 4, .nl 1, .nl 1, .i .i64 0, .i .i64 0, .i .i64 0, .i .i64 0, .i .i64 0, .i .i64 0, .i .i64 0, .i .i64 0, .i .i64 0, .nl 1, .i .i64 0, .i .i64 0, .i .i64 0, .nl 1, .nl 4, .nl 8], []⟩] [1, 2, 3, 10001, 10002, 10003]) (.seq (.reg false [⟨none, .p 4 (.fa (.t 1) 0 0), []⟩, ⟨none, .p 5 (.ld (.t 4) 0 1 false), []⟩, ⟨none, .p 6 (.fa (.t 3) 0 0), []⟩, ⟨none, .st (.t 6) (.t 5) 1, []⟩] [1, 2, 3, 10001, 10002, 10003]) (.seq (.reg false [⟨none, .p 7 (.fa (.t 1) 0 1), []⟩, ⟨none, .p 8 (.ld (.t 7) 0 1 false), []⟩, ⟨none, .p 9 (.fa (.t 3) 0 1), []⟩, ⟨none, .st (.t 9) (.t 8) 1, []⟩] [1, 2, 3, 10001, 10002, 10003]) (.seq (.reg false [⟨none, .p 10 (.fa (.t 1) 0 2), []⟩, ⟨none, .p 11 (.ld (.t 10) 0 16 true), []⟩, ⟨none, .call (some 12) 144 [.rd (.t 11)], []⟩, ⟨none, .p 13 (.fa (.t 3) 0 2), []⟩, ⟨none, .st (.t 13) (.t 12) 16, []⟩] [1, 2, 3, 10001, 10002, 10003]) (.seq (.reg false [⟨none, .p 14 (.fa (.t 1) 0 18), []⟩, ⟨none, .p 15 (.ld (.t 14) 0 1 false), []⟩, ⟨none, .p 16 (.fa (.t 3) 0 18), []⟩, ⟨none, .st (.t 16) (.t 15) 1, []⟩] [1, 2, 3, 10001, 10002, 10003]) (.seq (.reg false [⟨none, .p 17 (.fa (.t 1) 0 19), []⟩, ⟨none, .p 18 (.ld (.t 17) 0 1 false), []⟩, ⟨none, .p 19 (.fa (.t 3) 0 19), []⟩, ⟨none, .st (.t 19) (.t 18) 1, []⟩] [1, 2, 3, 10001, 10002, 10003]) (.seq (.reg false [⟨none, .p 20 (.fa (.t 1) 0 20), []⟩, ⟨none, .p 21 (.ld (.t 20) 0 2 true), []⟩, ⟨none, .call (some 22) 100 [.rd (.t 21)], []⟩, ⟨none, .p 23 (.fa (.t 3) 0 20), []⟩, ⟨none, .st (.t 23) (.t 22) 2, []⟩] [1, 2, 3, 10001, 10002, 10003]) (.seq (.reg false [⟨none, .p 24 (.fa (.t 1) 0 22), []⟩, ⟨none, .p 25 (.ld (.t 24) 0 1 false), []⟩, ⟨none, .call (some 26) 145 [.rd (.t 25)], []⟩, ⟨none, .p 27 (.fa (.t 3) 0 22), []⟩, ⟨none, .st (.t 27) (.t 26) 1, []⟩] [1, 2, 3, 10001, 10002, 10003]) (.seq (.reg false [⟨none, .p 28 (.fa (.t 1) 0 23), []⟩, ⟨none, .p 29 (.ld (.t 28) 0 1 false), []⟩, ⟨none, .call (some 30) 62 [.rd (.t 29)], []⟩, ⟨none, .p 31 (.fa (.t 3) 0 23), []⟩, ⟨none, .st (.t 31) (.t 30) 1, []⟩] [2, 3, 10002, 10003]) (.seq (.reg false [⟨none, .p 32 (.ld (.t 3) 0 24 true), []⟩, ⟨none, .st (.t 2) (.t 32) 24, []⟩] [2, 10002]) .ret)))))))))))
theorem code_laws_toDaemon : ∃ c, Tryz.f101.body = some c ∧ cfit PP 33 c c_laws_toDaemon = true := by
  refine ⟨_, (rfl : Tryz.f101.body = some _), ?_⟩
  kernel_rfl
theorem t_toDaemon {G : Glob} (a : XDaemon) (hm : a.ms ≤ 1048576) : FnD PP G 101 [.val true a.vw] [] [] [.v true a.own] [] [] := by
  obtain ⟨cc, hb, hcf⟩ := code_laws_toDaemon
  refine fn_ok (fn := Tryz.f101) (specs := [.c 2 24]) (by kernel_rfl) hb (by show (33:Nat) ≤ 10000; omega) hcf (by kernel_rfl) (by show (1:Nat) ≤ 33; omega) (by simp) (by simp) rfl rfl (by simp) rfl ?_
  simp only [c_laws_toDaemon]
  simp only [XDaemon.ms] at hm
  simp only [XDaemon.vw, XDaemon.own]
  simp only [push_cast, ↓reduceIte, Nat.reduceEqDiff, Nat.reduceLT, Nat.reduceLeDiff, Nat.reduceAdd, Nat.reduceMul, Nat.reduceSub, Nat.reduceDiv, Nat.reduceMod, Nat.reduceBEq, reduceCtorEq, Int.toNat_natCast, Int.reduceToNat, Option.some.injEq, Nat.le_refl, List.take_length]
  have hc := t_toMate (G := G) a.Mate (by omega)
  simp only [XMate.vw, XMate.own] at hc
  refine call_ok hc ?_
  clear hc
  simp only [push_cast, ↓reduceIte, Nat.reduceEqDiff, Nat.reduceLT, Nat.reduceLeDiff, Nat.reduceAdd, Nat.reduceMul, Nat.reduceSub, Nat.reduceDiv, Nat.reduceMod, Nat.reduceBEq, reduceCtorEq, Int.toNat_natCast, Int.reduceToNat, Option.some.injEq, Nat.le_refl, List.take_length]
  have hc := t_toRing (G := G) a.Joining (by omega)
  simp only [XRing.vw, XRing.own] at hc
  refine call_ok hc ?_
  clear hc
  simp only [push_cast, ↓reduceIte, Nat.reduceEqDiff, Nat.reduceLT, Nat.reduceLeDiff, Nat.reduceAdd, Nat.reduceMul, Nat.reduceSub, Nat.reduceDiv, Nat.reduceMod, Nat.reduceBEq, reduceCtorEq, Int.toNat_natCast, Int.reduceToNat, Option.some.injEq, Nat.le_refl, List.take_length]
  have hc := t_toBundleS (G := G) a.Bundles (by omega)
  refine call_ok hc ?_
  clear hc
  simp only [push_cast, ↓reduceIte, Nat.reduceEqDiff, Nat.reduceLT, Nat.reduceLeDiff, Nat.reduceAdd, Nat.reduceMul, Nat.reduceSub, Nat.reduceDiv, Nat.reduceMod, Nat.reduceBEq, reduceCtorEq, Int.toNat_natCast, Int.reduceToNat, Option.some.injEq, Nat.le_refl, List.take_length]
  have hc := t_toEventS (G := G) a.Log (by omega)
  refine call_ok hc ?_
  clear hc
  simp only [push_cast, ↓reduceIte, Nat.reduceEqDiff, Nat.reduceLT, Nat.reduceLeDiff, Nat.reduceAdd, Nat.reduceMul, Nat.reduceSub, Nat.reduceDiv, Nat.reduceMod, Nat.reduceBEq, reduceCtorEq, Int.toNat_natCast, Int.reduceToNat, Option.some.injEq, Nat.le_refl, List.take_length]

noncomputable def c_laws_toDaemonS : ACode := (.seq (.reg false [⟨none, .tk 2 (.k (.nl 24)), []⟩] [0]) (.seq (.reg false [⟨none, .p 5 (.mv (.t 0)), []⟩, ⟨none, .p 6 (.len false (.t 5)), []⟩, ⟨none, .mks 7 (.t 6) (.t 6) [.i .i64 0, .b false, .i .i64 0, .i .i64 0, .nl 1, .nl 4, .nl 1, .nl 1, .i .i64 0, .i .i64 0, .i .i64 0, .i .i64 0, .i .i64 0, .i .i64 0, .i .i64 0, .i .i64 0, .i .i64 0, .nl 1, .i .i64 0, .i .i64 0, .i .i64 0, .nl 1, .nl 4, .nl 8] 320, []⟩, ⟨none, .asg 3 (.t 7), []⟩] [0, 3]) (.seq (.seq (.reg false [⟨none, .asg 4 (.k (.i .i64 0)), []⟩] [0, 3, 4]) (.block 0 (.loop [0, 3, 4] (.seq (.seq (.reg false [⟨none, .p 8 (.mv (.t 4)), []⟩, ⟨none, .p 9 (.mv (.t 0)), []⟩, ⟨none, .p 10 (.len false (.t 9)), []⟩, ⟨none, .p 11 (.bin .lss (.t 8) (.t 10)), []⟩] [0, 3, 4, 11]) (.cond (.t 11) .skip (.exit 0 [3]))) (.seq (.block 1 (.reg false [⟨none, .p 14 (.mv (.t 3)), []⟩, ⟨none, .p 15 (.mv (.t 4)), []⟩, ⟨none, .p 16 (.mv (.t 0)), []⟩, ⟨none, .p 17 (.mv (.t 4)), []⟩, ⟨none, .p 18 (.ia (.t 16) (.t 17) 24), []⟩, ⟨none, .p 19 (.ld (.t 18) 0 24 true), []⟩, ⟨none, .call (some 20) 101 [.rd (.t 19)], []⟩, ⟨none, .p 21 (.ia (.t 14) (.t 15) 24), []⟩, ⟨none, .st (.t 21) (.t 20) 24, []⟩] [0, 3, 4])) (.reg false [⟨none, .p 12 (.mv (.t 4)), []⟩, ⟨none, .p 13 (.bin .add (.t 12) (.k (.i .i64 1))), []⟩, ⟨none, .asg 4 (.t 13), []⟩] [0, 3, 4])))))) (.seq (.reg false [⟨none, .p 22 (.mv (.t 3)), []⟩, ⟨none, .tk 2 (.t 22), []⟩] [2]) .ret))))
theorem code_laws_toDaemonS : ∃ c, Tryz.f60.body = some c ∧ cfit PP 23 c c_laws_toDaemonS = true := by
  refine ⟨_, (rfl : Tryz.f60.body = some _), ?_⟩
  kernel_rfl
theorem t_toDaemonS {G : Glob} (xs : List XDaemon) (hm : msL XDaemon.ms xs ≤ 1048576) : FnD PP G 60 [.val false [.vw none [] (.sl .ow 24 (xs.map XDaemon.row))]] [] [] [.v false [.ow (.sl .ow 24 (xs.map XDaemon.row))]] [] [] := by
  obtain ⟨cc, hb, hcf⟩ := code_laws_toDaemonS
  refine fn_ok (fn := Tryz.f60) (specs := [.t 2]) (by kernel_rfl) hb (by show (23:Nat) ≤ 10000; omega) hcf (by kernel_rfl) (by show (1:Nat) ≤ 23; omega) (by simp) (by simp) rfl rfl (by simp) rfl ?_
  simp only [c_laws_toDaemonS]
  try simp only [msL] at hm
  simp only [push_cast, ↓reduceIte, Nat.reduceEqDiff, Nat.reduceLT, Nat.reduceLeDiff, Nat.reduceAdd, Nat.reduceMul, Nat.reduceSub, Nat.reduceDiv, Nat.reduceMod, Nat.reduceBEq, reduceCtorEq, Int.toNat_natCast, Int.reduceToNat, Option.some.injEq, Nat.le_refl, List.take_length]
  refine ⟨⟨by omega, by omega, by omega⟩, ?_⟩
  have hrep : List.replicate xs.length [T.lit (.int .i64 0), T.lit (.bool false), T.lit (.int .i64 0), T.lit (.int .i64 0), T.sl .ow 1 [], T.sl .ow 4 [], T.sl .ow 1 [], T.sl .ow 1 [], T.lit (.int .i64 0), T.lit (.int .i64 0), T.lit (.int .i64 0), T.lit (.int .i64 0), T.lit (.int .i64 0), T.lit (.int .i64 0), T.lit (.int .i64 0), T.lit (.int .i64 0), T.lit (.int .i64 0), T.sl .ow 1 [], T.lit (.int .i64 0), T.lit (.int .i64 0), T.lit (.int .i64 0), T.sl .ow 1 [], T.sl .ow 4 [], T.sl .ow 8 []] = (xs.take 0 ++ List.replicate (xs.length - 0) XDaemon.zero).map XDaemon.row := by
    simp only [List.take_zero, List.nil_append, Nat.sub_zero, List.map_replicate]
    rfl
  rw [hrep]
  clear hrep
  refine cwp_loop (fun i : Nat => ⟨[(0, .val false [.vw none [] (.sl .ow 24 (xs.map XDaemon.row))]), (3, .val false [.ow (.sl .ow 24 ((xs.take i ++ List.replicate (xs.length - i) XDaemon.zero).map XDaemon.row))]), (4, .val false [.ow (.lit (.int .i64 i))])], []⟩)
    (fun i => i ≤ xs.length) (fun i => xs.length - i) 0 rfl (by simp [St.norm, nmL, nmA, nmC, St.get, getL, keyB, nmPl, nmKs]) (by omega) ?_
  intro i hle
  simp only [push_cast, ↓reduceIte, Nat.reduceEqDiff, Nat.reduceLT, Nat.reduceLeDiff, Nat.reduceAdd, Nat.reduceMul, Nat.reduceSub, Nat.reduceDiv, Nat.reduceMod, Nat.reduceBEq, reduceCtorEq, Int.toNat_natCast, Int.reduceToNat, Option.some.injEq, Nat.le_refl, List.take_length]
  refine cnd_dec (fun hlt => ?_) (fun hge => ?_)
  · have hi : i < xs.length := by omega
    have hl : (xs.take i ++ List.replicate (xs.length - i) XDaemon.zero).length = xs.length := by simp; omega
    have hi2 : i < (xs.take i ++ List.replicate (xs.length - i) XDaemon.zero).length := by omega
    simp only [push_cast, ↓reduceIte, Nat.reduceEqDiff, Nat.reduceLT, Nat.reduceLeDiff, Nat.reduceAdd, Nat.reduceMul, Nat.reduceSub, Nat.reduceDiv, Nat.reduceMod, Nat.reduceBEq, reduceCtorEq, Int.toNat_natCast, Int.reduceToNat, Option.some.injEq, Nat.le_refl, List.take_length, getD_map hi, XDaemon.row]
    refine ⟨⟨by omega, by omega⟩, ?_⟩
    have hc := t_toDaemon (G := G) xs[i] (by have := sum_mem XDaemon.ms xs i hi; omega)
    simp only [XDaemon.vw, XDaemon.own] at hc
    refine call_ok hc ?_
    clear hc
    simp only [push_cast, ↓reduceIte, Nat.reduceEqDiff, Nat.reduceLT, Nat.reduceLeDiff, Nat.reduceAdd, Nat.reduceMul, Nat.reduceSub, Nat.reduceDiv, Nat.reduceMod, Nat.reduceBEq, reduceCtorEq, Int.toNat_natCast, Int.reduceToNat, Option.some.injEq, Nat.le_refl, List.take_length, getD_map hi2, XDaemon.row]
    repeat (first | refine And.intro (by omega) ?_ | refine And.intro ⟨by omega, by omega⟩ ?_ | refine And.intro ⟨by omega, by omega, by omega⟩ ?_)
    refine ⟨i + 1, ?_, by omega, by omega⟩
    rw [wrap64 (by omega) (by omega)]
    rw [modf XDaemon.row _ i xs[i] (fun a => rfl), copy_step XDaemon.zero hi]
    simp
  · have hi : i = xs.length := by omega
    subst hi
    have e : xs.take xs.length ++ List.replicate (xs.length - xs.length) XDaemon.zero = xs := by simp
    rw [e]
    simp only [push_cast, ↓reduceIte, Nat.reduceEqDiff, Nat.reduceLT, Nat.reduceLeDiff, Nat.reduceAdd, Nat.reduceMul, Nat.reduceSub, Nat.reduceDiv, Nat.reduceMod, Nat.reduceBEq, reduceCtorEq, Int.toNat_natCast, Int.reduceToNat, Option.some.injEq, Nat.le_refl, List.take_length]
    try rw [show xs.length = (xs.map XDaemon.row).length by simp, List.take_length]

noncomputable def c_laws_toLetter : ACode := (.seq (.reg false [⟨none, .box 1 (.t 0), []⟩, ⟨none, .alloc 2 [.i .i64 0, .i .i64 0, .i .i64 0, .i .i64 0, .i .i64 0, .i .i64 0, .s emp, .i .i64 0, .i .i64 0, .i .i64 0, .i .i64 0, .i .i64 0, .nl 1, .i .i64 0, .i .i64 0, .i .i64 0, .nl 4], []⟩] [1, 2, 10001, 10002]) (.seq (.reg false [⟨none, .alloc 3 [.i .i64 0, .i .i64 0, .i .i64 0, .i .i64 0, .i .i64 0, .i .i64 0, .s emp, .i .i64 0, .i .i64 0, .i .i64 0, .i .i64 0, .i .i64 0, .nl 1, .i .i64 0, .i .i64 0, .i .i64 0, .nl 4], []⟩] [1, 2, 3, 10001, 10002, 10003]) (.seq (.reg false [⟨none, .p 4 (.fa (.t 1) 0 0), []⟩, ⟨none, .p 5 (.ld (.t 4) 0 1 false), []⟩, ⟨none, .p 6 (.fa (.t 3) 0 0), []⟩, ⟨none, .st (.t 6) (.t 5) 1, []⟩] [1, 2, 3, 10001, 10002, 10003]) (.seq (.reg false [⟨none, .p 7 (.fa (.t 1) 0 1), []⟩, ⟨none, .p 8 (.ld (.t 7) 0 1 false), []⟩, ⟨none, .p 9 (.fa (.t 3) 0 1), []⟩, ⟨none, .st (.t 9) (.t 8) 1, []⟩] [1, 2, 3, 10001, 10002, 10003]) (.seq (.reg false [⟨none, .p 10 (.fa (.t 1) 0 2), []⟩, ⟨none, .p 11 (.ld (.t 10) 0 1 false), []⟩, ⟨none, .p 12 (.fa (.t 3) 0 2), []⟩, ⟨none, .st (.t 12) (.t 11) 1, []⟩] [1, 2, 3, 10001, 10002, 10003]) (.seq (.reg false [⟨none, .p 13 (.fa (.t 1) 0 3), []⟩, ⟨none, .p 14 (.ld (.t 13) 0 4 true), []⟩, ⟨none, .call (some 15) 146 [.rd (.t 14)], []⟩, ⟨none, .p 16 (.fa (.t 3) 0 3), []⟩, ⟨none, .st (.t 16) (.t 15) 4, []⟩] [1, 2, 3, 10001, 10002, 10003]) (.seq (.reg false [⟨none, .p 17 (.fa (.t 1) 0 7), []⟩, ⟨none, .p 18 (.ld (.t 17) 0 6 true), []⟩, ⟨none, .call (some 19) 147 [.rd (.t 18)], []⟩, ⟨none, .p 20 (.fa (.t 3) 0 7), []⟩, ⟨none, .st (.t 20) (.t 19) 6, []⟩] [1, 2, 3, 10001, 10002, 10003]) (.seq (.reg false [⟨none, .p 21 (.fa (.t 1) 0 13), []⟩, ⟨none, .p 22 (.ld (.t 21) 0 4 true), []⟩, ⟨none, .call (some 23) 148 [.rd (.t 22)], []⟩, ⟨none, .p 24 (.fa (.t 3) 0 13), []⟩, ⟨none, .st (.t 24) (.t 23) 4, []⟩] [2, 3, 10002, 10003]) (.seq (.reg false [⟨none, .p 25 (.ld (.t 3) 0 17 true), []⟩, ⟨none, .st (.t 2) (.t 25) 17, []⟩] [2, 10002]) .ret)))))))))
theorem code_laws_toLetter : ∃ c, Tryz.f102.body = some c ∧ cfit PP 26 c c_laws_toLetter = true := by
  refine ⟨_, (rfl : Tryz.f102.body = some _), ?_⟩
  kernel_rfl
theorem t_toLetter {G : Glob} (a : XLetter) (hm : a.ms ≤ 1048576) : FnD PP G 102 [.val true a.vw] [] [] [.v true a.own] [] [] := by
  obtain ⟨cc, hb, hcf⟩ := code_laws_toLetter
  refine fn_ok (fn := Tryz.f102) (specs := [.c 2 17]) (by kernel_rfl) hb (by show (26:Nat) ≤ 10000; omega) hcf (by kernel_rfl) (by show (1:Nat) ≤ 26; omega) (by simp) (by simp) rfl rfl (by simp) rfl ?_
  simp only [c_laws_toLetter]
  simp only [XLetter.ms] at hm
  simp only [XLetter.vw, XLetter.own]
  simp only [push_cast, ↓reduceIte, Nat.reduceEqDiff, Nat.reduceLT, Nat.reduceLeDiff, Nat.reduceAdd, Nat.reduceMul, Nat.reduceSub, Nat.reduceDiv, Nat.reduceMod, Nat.reduceBEq, reduceCtorEq, Int.toNat_natCast, Int.reduceToNat, Option.some.injEq, Nat.le_refl, List.take_length]
  have hc := t_toItem (G := G) a.Item (by omega)
  simp only [XItem.vw, XItem.own] at hc
  refine call_ok hc ?_
  clear hc
  simp only [push_cast, ↓reduceIte, Nat.reduceEqDiff, Nat.reduceLT, Nat.reduceLeDiff, Nat.reduceAdd, Nat.reduceMul, Nat.reduceSub, Nat.reduceDiv, Nat.reduceMod, Nat.reduceBEq, reduceCtorEq, Int.toNat_natCast, Int.reduceToNat, Option.some.injEq, Nat.le_refl, List.take_length]
  have hc := t_toToken (G := G) a.Token (by omega)
  simp only [XToken.vw, XToken.own] at hc
  refine call_ok hc ?_
  clear hc
  simp only [push_cast, ↓reduceIte, Nat.reduceEqDiff, Nat.reduceLT, Nat.reduceLeDiff, Nat.reduceAdd, Nat.reduceMul, Nat.reduceSub, Nat.reduceDiv, Nat.reduceMod, Nat.reduceBEq, reduceCtorEq, Int.toNat_natCast, Int.reduceToNat, Option.some.injEq, Nat.le_refl, List.take_length]
  have hc := t_toBundle (G := G) a.Bundle (by omega)
  simp only [XBundle.vw, XBundle.own] at hc
  refine call_ok hc ?_
  clear hc
  simp only [push_cast, ↓reduceIte, Nat.reduceEqDiff, Nat.reduceLT, Nat.reduceLeDiff, Nat.reduceAdd, Nat.reduceMul, Nat.reduceSub, Nat.reduceDiv, Nat.reduceMod, Nat.reduceBEq, reduceCtorEq, Int.toNat_natCast, Int.reduceToNat, Option.some.injEq, Nat.le_refl, List.take_length]

noncomputable def c_laws_toLetterS : ACode := (.seq (.reg false [⟨none, .tk 2 (.k (.nl 17)), []⟩] [0]) (.seq (.reg false [⟨none, .p 5 (.mv (.t 0)), []⟩, ⟨none, .p 6 (.len false (.t 5)), []⟩, ⟨none, .mks 7 (.t 6) (.t 6) [.i .i64 0, .i .i64 0, .i .i64 0, .i .i64 0, .i .i64 0, .i .i64 0, .s emp, .i .i64 0, .i .i64 0, .i .i64 0, .i .i64 0, .i .i64 0, .nl 1, .i .i64 0, .i .i64 0, .i .i64 0, .nl 4] 176, []⟩, ⟨none, .asg 3 (.t 7), []⟩] [0, 3]) (.seq (.seq (.reg false [⟨none, .asg 4 (.k (.i .i64 0)), []⟩] [0, 3, 4]) (.block 0 (.loop [0, 3, 4] (.seq (.seq (.reg false [⟨none, .p 8 (.mv (.t 4)), []⟩, ⟨none, .p 9 (.mv (.t 0)), []⟩, ⟨none, .p 10 (.len false (.t 9)), []⟩, ⟨none, .p 11 (.bin .lss (.t 8) (.t 10)), []⟩] [0, 3, 4, 11]) (.cond (.t 11) .skip (.exit 0 [3]))) (.seq (.block 1 (.reg false [⟨none, .p 14 (.mv (.t 3)), []⟩, ⟨none, .p 15 (.mv (.t 4)), []⟩, ⟨none, .p 16 (.mv (.t 0)), []⟩, ⟨none, .p 17 (.mv (.t 4)), []⟩, ⟨none, .p 18 (.ia (.t 16) (.t 17) 17), []⟩, ⟨none, .p 19 (.ld (.t 18) 0 17 true), []⟩, ⟨none, .call (some 20) 102 [.rd (.t 19)], []⟩, ⟨none, .p 21 (.ia (.t 14) (.t 15) 17), []⟩, ⟨none, .st (.t 21) (.t 20) 17, []⟩] [0, 3, 4])) (.reg false [⟨none, .p 12 (.mv (.t 4)), []⟩, ⟨none, .p 13 (.bin .add (.t 12) (.k (.i .i64 1))), []⟩, ⟨none, .asg 4 (.t 13), []⟩] [0, 3, 4])))))) (.seq (.reg false [⟨none, .p 22 (.mv (.t 3)), []⟩, ⟨none, .tk 2 (.t 22), []⟩] [2]) .ret))))
theorem code_laws_toLetterS : ∃ c, Tryz.f61.body = some c ∧ cfit PP 23 c c_laws_toLetterS = true := by
  refine ⟨_, (rfl : Tryz.f61.body = some _), ?_⟩
  kernel_rfl
theorem t_toLetterS {G : Glob} (xs : List XLetter) (hm : msL XLetter.ms xs ≤ 1048576) : FnD PP G 61 [.val false [.vw none [] (.sl .ow 17 (xs.map XLetter.row))]] [] [] [.v false [.ow (.sl .ow 17 (xs.map XLetter.row))]] [] [] := by
  obtain ⟨cc, hb, hcf⟩ := code_laws_toLetterS
  refine fn_ok (fn := Tryz.f61) (specs := [.t 2]) (by kernel_rfl) hb (by show (23:Nat) ≤ 10000; omega) hcf (by kernel_rfl) (by show (1:Nat) ≤ 23; omega) (by simp) (by simp) rfl rfl (by simp) rfl ?_
  simp only [c_laws_toLetterS]
  try simp only [msL] at hm
  simp only [push_cast, ↓reduceIte, Nat.reduceEqDiff, Nat.reduceLT, Nat.reduceLeDiff, Nat.reduceAdd, Nat.reduceMul, Nat.reduceSub, Nat.reduceDiv, Nat.reduceMod, Nat.reduceBEq, reduceCtorEq, Int.toNat_natCast, Int.reduceToNat, Option.some.injEq, Nat.le_refl, List.take_length]
  refine ⟨⟨by omega, by omega, by omega⟩, ?_⟩
  have hrep : List.replicate xs.length [T.lit (.int .i64 0), T.lit (.int .i64 0), T.lit (.int .i64 0), T.lit (.int .i64 0), T.lit (.int .i64 0), T.lit (.int .i64 0), T.lit (.string emp), T.lit (.int .i64 0), T.lit (.int .i64 0), T.lit (.int .i64 0), T.lit (.int .i64 0), T.lit (.int .i64 0), T.sl .ow 1 [], T.lit (.int .i64 0), T.lit (.int .i64 0), T.lit (.int .i64 0), T.sl .ow 4 []] = (xs.take 0 ++ List.replicate (xs.length - 0) XLetter.zero).map XLetter.row := by
    simp only [List.take_zero, List.nil_append, Nat.sub_zero, List.map_replicate]
    rfl
  rw [hrep]
  clear hrep
  refine cwp_loop (fun i : Nat => ⟨[(0, .val false [.vw none [] (.sl .ow 17 (xs.map XLetter.row))]), (3, .val false [.ow (.sl .ow 17 ((xs.take i ++ List.replicate (xs.length - i) XLetter.zero).map XLetter.row))]), (4, .val false [.ow (.lit (.int .i64 i))])], []⟩)
    (fun i => i ≤ xs.length) (fun i => xs.length - i) 0 rfl (by simp [St.norm, nmL, nmA, nmC, St.get, getL, keyB, nmPl, nmKs]) (by omega) ?_
  intro i hle
  simp only [push_cast, ↓reduceIte, Nat.reduceEqDiff, Nat.reduceLT, Nat.reduceLeDiff, Nat.reduceAdd, Nat.reduceMul, Nat.reduceSub, Nat.reduceDiv, Nat.reduceMod, Nat.reduceBEq, reduceCtorEq, Int.toNat_natCast, Int.reduceToNat, Option.some.injEq, Nat.le_refl, List.take_length]
  refine cnd_dec (fun hlt => ?_) (fun hge => ?_)
  · have hi : i < xs.length := by omega
    have hl : (xs.take i ++ List.replicate (xs.length - i) XLetter.zero).length = xs.length := by simp; omega
    have hi2 : i < (xs.take i ++ List.replicate (xs.length - i) XLetter.zero).length := by omega
    simp only [push_cast, ↓reduceIte, Nat.reduceEqDiff, Nat.reduceLT, Nat.reduceLeDiff, Nat.reduceAdd, Nat.reduceMul, Nat.reduceSub, Nat.reduceDiv, Nat.reduceMod, Nat.reduceBEq, reduceCtorEq, Int.toNat_natCast, Int.reduceToNat, Option.some.injEq, Nat.le_refl, List.take_length, getD_map hi, XLetter.row]
    refine ⟨⟨by omega, by omega⟩, ?_⟩
    have hc := t_toLetter (G := G) xs[i] (by have := sum_mem XLetter.ms xs i hi; omega)
    simp only [XLetter.vw, XLetter.own] at hc
    refine call_ok hc ?_
    clear hc
    simp only [push_cast, ↓reduceIte, Nat.reduceEqDiff, Nat.reduceLT, Nat.reduceLeDiff, Nat.reduceAdd, Nat.reduceMul, Nat.reduceSub, Nat.reduceDiv, Nat.reduceMod, Nat.reduceBEq, reduceCtorEq, Int.toNat_natCast, Int.reduceToNat, Option.some.injEq, Nat.le_refl, List.take_length, getD_map hi2, XLetter.row]
    repeat (first | refine And.intro (by omega) ?_ | refine And.intro ⟨by omega, by omega⟩ ?_ | refine And.intro ⟨by omega, by omega, by omega⟩ ?_)
    refine ⟨i + 1, ?_, by omega, by omega⟩
    rw [wrap64 (by omega) (by omega)]
    rw [modf XLetter.row _ i xs[i] (fun a => rfl), copy_step XLetter.zero hi]
    simp
  · have hi : i = xs.length := by omega
    subst hi
    have e : xs.take xs.length ++ List.replicate (xs.length - xs.length) XLetter.zero = xs := by simp
    rw [e]
    simp only [push_cast, ↓reduceIte, Nat.reduceEqDiff, Nat.reduceLT, Nat.reduceLeDiff, Nat.reduceAdd, Nat.reduceMul, Nat.reduceSub, Nat.reduceDiv, Nat.reduceMod, Nat.reduceBEq, reduceCtorEq, Int.toNat_natCast, Int.reduceToNat, Option.some.injEq, Nat.le_refl, List.take_length]
    try rw [show xs.length = (xs.map XLetter.row).length by simp, List.take_length]

noncomputable def c_laws_toWorld : ACode := (.seq (.reg false [⟨none, .box 1 (.t 0), []⟩, ⟨none, .alloc 2 [.nl 2, .nl 24, .nl 17, .nl 8], []⟩] [1, 2, 10001, 10002]) (.seq (.reg false [⟨none, .alloc 3 [.nl 2, .nl 24, .nl 17, .nl 8], []⟩] [1, 2, 3, 10001, 10002, 10003]) (.seq (.reg false [⟨none, .p 4 (.fa (.t 1) 0 0), []⟩, ⟨none, .p 5 (.ld (.t 4) 0 1 false), []⟩, ⟨none, .call (some 6) 59 [.rd (.t 5)], []⟩, ⟨none, .p 7 (.fa (.t 3) 0 0), []⟩, ⟨none, .st (.t 7) (.t 6) 1, []⟩] [1, 2, 3, 10001, 10002, 10003]) (.seq (.reg false [⟨none, .p 8 (.fa (.t 1) 0 1), []⟩, ⟨none, .p 9 (.ld (.t 8) 0 1 false), []⟩, ⟨none, .call (some 10) 60 [.rd (.t 9)], []⟩, ⟨none, .p 11 (.fa (.t 3) 0 1), []⟩, ⟨none, .st (.t 11) (.t 10) 1, []⟩] [1, 2, 3, 10001, 10002, 10003]) (.seq (.reg false [⟨none, .p 12 (.fa (.t 1) 0 2), []⟩, ⟨none, .p 13 (.ld (.t 12) 0 1 false), []⟩, ⟨none, .call (some 14) 61 [.rd (.t 13)], []⟩, ⟨none, .p 15 (.fa (.t 3) 0 2), []⟩, ⟨none, .st (.t 15) (.t 14) 1, []⟩] [1, 2, 3, 10001, 10002, 10003]) (.seq (.reg false [⟨none, .p 16 (.fa (.t 1) 0 3), []⟩, ⟨none, .p 17 (.ld (.t 16) 0 1 false), []⟩, ⟨none, .call (some 18) 62 [.rd (.t 17)], []⟩, ⟨none, .p 19 (.fa (.t 3) 0 3), []⟩, ⟨none, .st (.t 19) (.t 18) 1, []⟩] [2, 3, 10002, 10003]) (.seq (.reg false [⟨none, .p 20 (.ld (.t 3) 0 4 true), []⟩, ⟨none, .st (.t 2) (.t 20) 4, []⟩] [2, 10002]) .ret)))))))
theorem code_laws_toWorld : ∃ c, Tryz.f26.body = some c ∧ cfit PP 21 c c_laws_toWorld = true := by
  refine ⟨_, (rfl : Tryz.f26.body = some _), ?_⟩
  kernel_rfl
theorem t_toWorld {G : Glob} (a : XWorld) (hm : a.ms ≤ 1048576) : FnD PP G 26 [.val true a.vw] [] [] [.v true a.own] [] [] := by
  obtain ⟨cc, hb, hcf⟩ := code_laws_toWorld
  refine fn_ok (fn := Tryz.f26) (specs := [.c 2 4]) (by kernel_rfl) hb (by show (21:Nat) ≤ 10000; omega) hcf (by kernel_rfl) (by show (1:Nat) ≤ 21; omega) (by simp) (by simp) rfl rfl (by simp) rfl ?_
  simp only [c_laws_toWorld]
  simp only [XWorld.ms] at hm
  simp only [XWorld.vw, XWorld.own]
  simp only [push_cast, ↓reduceIte, Nat.reduceEqDiff, Nat.reduceLT, Nat.reduceLeDiff, Nat.reduceAdd, Nat.reduceMul, Nat.reduceSub, Nat.reduceDiv, Nat.reduceMod, Nat.reduceBEq, reduceCtorEq, Int.toNat_natCast, Int.reduceToNat, Option.some.injEq, Nat.le_refl, List.take_length]
  have hc := t_toRingS (G := G) a.Rings (by omega)
  refine call_ok hc ?_
  clear hc
  simp only [push_cast, ↓reduceIte, Nat.reduceEqDiff, Nat.reduceLT, Nat.reduceLeDiff, Nat.reduceAdd, Nat.reduceMul, Nat.reduceSub, Nat.reduceDiv, Nat.reduceMod, Nat.reduceBEq, reduceCtorEq, Int.toNat_natCast, Int.reduceToNat, Option.some.injEq, Nat.le_refl, List.take_length]
  have hc := t_toDaemonS (G := G) a.Daemons (by omega)
  refine call_ok hc ?_
  clear hc
  simp only [push_cast, ↓reduceIte, Nat.reduceEqDiff, Nat.reduceLT, Nat.reduceLeDiff, Nat.reduceAdd, Nat.reduceMul, Nat.reduceSub, Nat.reduceDiv, Nat.reduceMod, Nat.reduceBEq, reduceCtorEq, Int.toNat_natCast, Int.reduceToNat, Option.some.injEq, Nat.le_refl, List.take_length]
  have hc := t_toLetterS (G := G) a.Letters (by omega)
  refine call_ok hc ?_
  clear hc
  simp only [push_cast, ↓reduceIte, Nat.reduceEqDiff, Nat.reduceLT, Nat.reduceLeDiff, Nat.reduceAdd, Nat.reduceMul, Nat.reduceSub, Nat.reduceDiv, Nat.reduceMod, Nat.reduceBEq, reduceCtorEq, Int.toNat_natCast, Int.reduceToNat, Option.some.injEq, Nat.le_refl, List.take_length]
  have hc := t_toEventS (G := G) a.Numbered (by omega)
  refine call_ok hc ?_
  clear hc
  simp only [push_cast, ↓reduceIte, Nat.reduceEqDiff, Nat.reduceLT, Nat.reduceLeDiff, Nat.reduceAdd, Nat.reduceMul, Nat.reduceSub, Nat.reduceDiv, Nat.reduceMod, Nat.reduceBEq, reduceCtorEq, Int.toNat_natCast, Int.reduceToNat, Option.some.injEq, Nat.le_refl, List.take_length]

noncomputable def c_laws_toReader : ACode := (.seq (.reg false [⟨none, .box 1 (.t 0), []⟩, ⟨none, .alloc 2 [.s emp, .b false], []⟩] [1, 2, 10001, 10002]) (.seq (.reg false [⟨none, .alloc 3 [.s emp, .b false], []⟩] [1, 2, 3, 10001, 10002, 10003]) (.seq (.reg false [⟨none, .p 4 (.fa (.t 1) 0 0), []⟩, ⟨none, .p 5 (.ld (.t 4) 0 1 false), []⟩, ⟨none, .p 6 (.fa (.t 3) 0 0), []⟩, ⟨none, .st (.t 6) (.t 5) 1, []⟩] [1, 2, 3, 10001, 10002, 10003]) (.seq (.reg false [⟨none, .p 7 (.fa (.t 1) 0 1), []⟩, ⟨none, .p 8 (.ld (.t 7) 0 1 false), []⟩, ⟨none, .p 9 (.fa (.t 3) 0 1), []⟩, ⟨none, .st (.t 9) (.t 8) 1, []⟩] [2, 3, 10002, 10003]) (.seq (.reg false [⟨none, .p 10 (.ld (.t 3) 0 2 true), []⟩, ⟨none, .st (.t 2) (.t 10) 2, []⟩] [2, 10002]) .ret)))))
theorem code_laws_toReader : ∃ c, Tryz.f149.body = some c ∧ cfit PP 11 c c_laws_toReader = true := by
  refine ⟨_, (rfl : Tryz.f149.body = some _), ?_⟩
  kernel_rfl
theorem t_toReader {G : Glob} (a : XReader) (hm : a.ms ≤ 1048576) : FnD PP G 149 [.val true a.vw] [] [] [.v true a.own] [] [] := by
  obtain ⟨cc, hb, hcf⟩ := code_laws_toReader
  refine fn_ok (fn := Tryz.f149) (specs := [.c 2 2]) (by kernel_rfl) hb (by show (11:Nat) ≤ 10000; omega) hcf (by kernel_rfl) (by show (1:Nat) ≤ 11; omega) (by simp) (by simp) rfl rfl (by simp) rfl ?_
  simp only [c_laws_toReader]
  simp only [XReader.ms] at hm
  simp only [XReader.vw, XReader.own]
  simp only [push_cast, ↓reduceIte, Nat.reduceEqDiff, Nat.reduceLT, Nat.reduceLeDiff, Nat.reduceAdd, Nat.reduceMul, Nat.reduceSub, Nat.reduceDiv, Nat.reduceMod, Nat.reduceBEq, reduceCtorEq, Int.toNat_natCast, Int.reduceToNat, Option.some.injEq, Nat.le_refl, List.take_length]

noncomputable def c_laws_toSession : ACode := (.seq (.reg false [⟨none, .box 1 (.t 0), []⟩, ⟨none, .alloc 2 [.i .i64 0, .s emp, .s emp, .b false, .b false, .nl 1], []⟩] [1, 2, 10001, 10002]) (.seq (.reg false [⟨none, .alloc 3 [.i .i64 0, .s emp, .s emp, .b false, .b false, .nl 1], []⟩] [1, 2, 3, 10001, 10002, 10003]) (.seq (.reg false [⟨none, .p 4 (.fa (.t 1) 0 0), []⟩, ⟨none, .p 5 (.ld (.t 4) 0 1 false), []⟩, ⟨none, .p 6 (.fa (.t 3) 0 0), []⟩, ⟨none, .st (.t 6) (.t 5) 1, []⟩] [1, 2, 3, 10001, 10002, 10003]) (.seq (.reg false [⟨none, .p 7 (.fa (.t 1) 0 1), []⟩, ⟨none, .p 8 (.ld (.t 7) 0 1 false), []⟩, ⟨none, .p 9 (.fa (.t 3) 0 1), []⟩, ⟨none, .st (.t 9) (.t 8) 1, []⟩] [1, 2, 3, 10001, 10002, 10003]) (.seq (.reg false [⟨none, .p 10 (.fa (.t 1) 0 2), []⟩, ⟨none, .p 11 (.ld (.t 10) 0 2 true), []⟩, ⟨none, .call (some 12) 149 [.rd (.t 11)], []⟩, ⟨none, .p 13 (.fa (.t 3) 0 2), []⟩, ⟨none, .st (.t 13) (.t 12) 2, []⟩] [1, 2, 3, 10001, 10002, 10003]) (.seq (.reg false [⟨none, .p 14 (.fa (.t 1) 0 4), []⟩, ⟨none, .p 15 (.ld (.t 14) 0 1 false), []⟩, ⟨none, .p 16 (.fa (.t 3) 0 4), []⟩, ⟨none, .st (.t 16) (.t 15) 1, []⟩] [1, 2, 3, 10001, 10002, 10003]) (.seq (.reg false [⟨none, .p 17 (.fa (.t 1) 0 5), []⟩, ⟨none, .p 18 (.ld (.t 17) 0 1 false), []⟩, ⟨none, .call (some 19) 106 [.rd (.t 18)], []⟩, ⟨none, .p 20 (.fa (.t 3) 0 5), []⟩, ⟨none, .st (.t 20) (.t 19) 1, []⟩] [2, 3, 10002, 10003]) (.seq (.reg false [⟨none, .p 21 (.ld (.t 3) 0 6 true), []⟩, ⟨none, .st (.t 2) (.t 21) 6, []⟩] [2, 10002]) .ret))))))))
theorem code_laws_toSession : ∃ c, Tryz.f104.body = some c ∧ cfit PP 22 c c_laws_toSession = true := by
  refine ⟨_, (rfl : Tryz.f104.body = some _), ?_⟩
  kernel_rfl
theorem t_toSession {G : Glob} (a : XSession) (hm : a.ms ≤ 1048576) : FnD PP G 104 [.val true a.vw] [] [] [.v true a.own] [] [] := by
  obtain ⟨cc, hb, hcf⟩ := code_laws_toSession
  refine fn_ok (fn := Tryz.f104) (specs := [.c 2 6]) (by kernel_rfl) hb (by show (22:Nat) ≤ 10000; omega) hcf (by kernel_rfl) (by show (1:Nat) ≤ 22; omega) (by simp) (by simp) rfl rfl (by simp) rfl ?_
  simp only [c_laws_toSession]
  simp only [XSession.ms] at hm
  simp only [XSession.vw, XSession.own]
  simp only [push_cast, ↓reduceIte, Nat.reduceEqDiff, Nat.reduceLT, Nat.reduceLeDiff, Nat.reduceAdd, Nat.reduceMul, Nat.reduceSub, Nat.reduceDiv, Nat.reduceMod, Nat.reduceBEq, reduceCtorEq, Int.toNat_natCast, Int.reduceToNat, Option.some.injEq, Nat.le_refl, List.take_length]
  have hc := t_toReader (G := G) a.Read (by omega)
  simp only [XReader.vw, XReader.own] at hc
  refine call_ok hc ?_
  clear hc
  simp only [push_cast, ↓reduceIte, Nat.reduceEqDiff, Nat.reduceLT, Nat.reduceLeDiff, Nat.reduceAdd, Nat.reduceMul, Nat.reduceSub, Nat.reduceDiv, Nat.reduceMod, Nat.reduceBEq, reduceCtorEq, Int.toNat_natCast, Int.reduceToNat, Option.some.injEq, Nat.le_refl, List.take_length]
  have hc := t_toStringS (G := G) a.In (by omega)
  refine call_ok hc ?_
  clear hc
  simp only [push_cast, ↓reduceIte, Nat.reduceEqDiff, Nat.reduceLT, Nat.reduceLeDiff, Nat.reduceAdd, Nat.reduceMul, Nat.reduceSub, Nat.reduceDiv, Nat.reduceMod, Nat.reduceBEq, reduceCtorEq, Int.toNat_natCast, Int.reduceToNat, Option.some.injEq, Nat.le_refl, List.take_length]

noncomputable def c_laws_toBox : ACode := (.seq (.reg false [⟨none, .box 1 (.t 0), []⟩, ⟨none, .alloc 2 [.s emp, .nl 1, .b false], []⟩] [1, 2, 10001, 10002]) (.seq (.reg false [⟨none, .alloc 3 [.s emp, .nl 1, .b false], []⟩] [1, 2, 3, 10001, 10002, 10003]) (.seq (.reg false [⟨none, .p 4 (.fa (.t 1) 0 0), []⟩, ⟨none, .p 5 (.ld (.t 4) 0 1 false), []⟩, ⟨none, .p 6 (.fa (.t 3) 0 0), []⟩, ⟨none, .st (.t 6) (.t 5) 1, []⟩] [1, 2, 3, 10001, 10002, 10003]) (.seq (.reg false [⟨none, .p 7 (.fa (.t 1) 0 1), []⟩, ⟨none, .p 8 (.ld (.t 7) 0 1 false), []⟩, ⟨none, .call (some 9) 106 [.rd (.t 8)], []⟩, ⟨none, .p 10 (.fa (.t 3) 0 1), []⟩, ⟨none, .st (.t 10) (.t 9) 1, []⟩] [1, 2, 3, 10001, 10002, 10003]) (.seq (.reg false [⟨none, .p 11 (.fa (.t 1) 0 2), []⟩, ⟨none, .p 12 (.ld (.t 11) 0 1 false), []⟩, ⟨none, .p 13 (.fa (.t 3) 0 2), []⟩, ⟨none, .st (.t 13) (.t 12) 1, []⟩] [2, 3, 10002, 10003]) (.seq (.reg false [⟨none, .p 14 (.ld (.t 3) 0 3 true), []⟩, ⟨none, .st (.t 2) (.t 14) 3, []⟩] [2, 10002]) .ret))))))
theorem code_laws_toBox : ∃ c, Tryz.f105.body = some c ∧ cfit PP 15 c c_laws_toBox = true := by
  refine ⟨_, (rfl : Tryz.f105.body = some _), ?_⟩
  kernel_rfl
theorem t_toBox {G : Glob} (a : XBox) (hm : a.ms ≤ 1048576) : FnD PP G 105 [.val true a.vw] [] [] [.v true a.own] [] [] := by
  obtain ⟨cc, hb, hcf⟩ := code_laws_toBox
  refine fn_ok (fn := Tryz.f105) (specs := [.c 2 3]) (by kernel_rfl) hb (by show (15:Nat) ≤ 10000; omega) hcf (by kernel_rfl) (by show (1:Nat) ≤ 15; omega) (by simp) (by simp) rfl rfl (by simp) rfl ?_
  simp only [c_laws_toBox]
  simp only [XBox.ms] at hm
  simp only [XBox.vw, XBox.own]
  simp only [push_cast, ↓reduceIte, Nat.reduceEqDiff, Nat.reduceLT, Nat.reduceLeDiff, Nat.reduceAdd, Nat.reduceMul, Nat.reduceSub, Nat.reduceDiv, Nat.reduceMod, Nat.reduceBEq, reduceCtorEq, Int.toNat_natCast, Int.reduceToNat, Option.some.injEq, Nat.le_refl, List.take_length]
  have hc := t_toStringS (G := G) a.Texts (by omega)
  refine call_ok hc ?_
  clear hc
  simp only [push_cast, ↓reduceIte, Nat.reduceEqDiff, Nat.reduceLT, Nat.reduceLeDiff, Nat.reduceAdd, Nat.reduceMul, Nat.reduceSub, Nat.reduceDiv, Nat.reduceMod, Nat.reduceBEq, reduceCtorEq, Int.toNat_natCast, Int.reduceToNat, Option.some.injEq, Nat.le_refl, List.take_length]

noncomputable def c_laws_toCaller : ACode := (.seq (.reg false [⟨none, .box 1 (.t 0), []⟩, ⟨none, .alloc 2 [.i .i64 0, .s emp, .s emp, .b false, .b false, .nl 1, .s emp, .nl 1, .b false, .s emp, .nl 1], []⟩] [1, 2, 10001, 10002]) (.seq (.reg false [⟨none, .alloc 3 [.i .i64 0, .s emp, .s emp, .b false, .b false, .nl 1, .s emp, .nl 1, .b false, .s emp, .nl 1], []⟩] [1, 2, 3, 10001, 10002, 10003]) (.seq (.reg false [⟨none, .p 4 (.fa (.t 1) 0 0), []⟩, ⟨none, .p 5 (.ld (.t 4) 0 6 true), []⟩, ⟨none, .call (some 6) 104 [.rd (.t 5)], []⟩, ⟨none, .p 7 (.fa (.t 3) 0 0), []⟩, ⟨none, .st (.t 7) (.t 6) 6, []⟩] [1, 2, 3, 10001, 10002, 10003]) (.seq (.reg false [⟨none, .p 8 (.fa (.t 1) 0 6), []⟩, ⟨none, .p 9 (.ld (.t 8) 0 3 true), []⟩, ⟨none, .call (some 10) 105 [.rd (.t 9)], []⟩, ⟨none, .p 11 (.fa (.t 3) 0 6), []⟩, ⟨none, .st (.t 11) (.t 10) 3, []⟩] [1, 2, 3, 10001, 10002, 10003]) (.seq (.reg false [⟨none, .p 12 (.fa (.t 1) 0 9), []⟩, ⟨none, .p 13 (.ld (.t 12) 0 1 false), []⟩, ⟨none, .p 14 (.fa (.t 3) 0 9), []⟩, ⟨none, .st (.t 14) (.t 13) 1, []⟩] [1, 2, 3, 10001, 10002, 10003]) (.seq (.reg false [⟨none, .p 15 (.fa (.t 1) 0 10), []⟩, ⟨none, .p 16 (.ld (.t 15) 0 1 false), []⟩, ⟨none, .call (some 17) 106 [.rd (.t 16)], []⟩, ⟨none, .p 18 (.fa (.t 3) 0 10), []⟩, ⟨none, .st (.t 18) (.t 17) 1, []⟩] [2, 3, 10002, 10003]) (.seq (.reg false [⟨none, .p 19 (.ld (.t 3) 0 11 true), []⟩, ⟨none, .st (.t 2) (.t 19) 11, []⟩] [2, 10002]) .ret)))))))
theorem code_laws_toCaller : ∃ c, Tryz.f63.body = some c ∧ cfit PP 20 c c_laws_toCaller = true := by
  refine ⟨_, (rfl : Tryz.f63.body = some _), ?_⟩
  kernel_rfl
theorem t_toCaller {G : Glob} (a : XCaller) (hm : a.ms ≤ 1048576) : FnD PP G 63 [.val true a.vw] [] [] [.v true a.own] [] [] := by
  obtain ⟨cc, hb, hcf⟩ := code_laws_toCaller
  refine fn_ok (fn := Tryz.f63) (specs := [.c 2 11]) (by kernel_rfl) hb (by show (20:Nat) ≤ 10000; omega) hcf (by kernel_rfl) (by show (1:Nat) ≤ 20; omega) (by simp) (by simp) rfl rfl (by simp) rfl ?_
  simp only [c_laws_toCaller]
  simp only [XCaller.ms] at hm
  simp only [XCaller.vw, XCaller.own]
  simp only [push_cast, ↓reduceIte, Nat.reduceEqDiff, Nat.reduceLT, Nat.reduceLeDiff, Nat.reduceAdd, Nat.reduceMul, Nat.reduceSub, Nat.reduceDiv, Nat.reduceMod, Nat.reduceBEq, reduceCtorEq, Int.toNat_natCast, Int.reduceToNat, Option.some.injEq, Nat.le_refl, List.take_length]
  have hc := t_toSession (G := G) a.Session (by omega)
  simp only [XSession.vw, XSession.own] at hc
  refine call_ok hc ?_
  clear hc
  simp only [push_cast, ↓reduceIte, Nat.reduceEqDiff, Nat.reduceLT, Nat.reduceLeDiff, Nat.reduceAdd, Nat.reduceMul, Nat.reduceSub, Nat.reduceDiv, Nat.reduceMod, Nat.reduceBEq, reduceCtorEq, Int.toNat_natCast, Int.reduceToNat, Option.some.injEq, Nat.le_refl, List.take_length]
  have hc := t_toBox (G := G) a.Box (by omega)
  simp only [XBox.vw, XBox.own] at hc
  refine call_ok hc ?_
  clear hc
  simp only [push_cast, ↓reduceIte, Nat.reduceEqDiff, Nat.reduceLT, Nat.reduceLeDiff, Nat.reduceAdd, Nat.reduceMul, Nat.reduceSub, Nat.reduceDiv, Nat.reduceMod, Nat.reduceBEq, reduceCtorEq, Int.toNat_natCast, Int.reduceToNat, Option.some.injEq, Nat.le_refl, List.take_length]
  have hc := t_toStringS (G := G) a.Got (by omega)
  refine call_ok hc ?_
  clear hc
  simp only [push_cast, ↓reduceIte, Nat.reduceEqDiff, Nat.reduceLT, Nat.reduceLeDiff, Nat.reduceAdd, Nat.reduceMul, Nat.reduceSub, Nat.reduceDiv, Nat.reduceMod, Nat.reduceBEq, reduceCtorEq, Int.toNat_natCast, Int.reduceToNat, Option.some.injEq, Nat.le_refl, List.take_length]

noncomputable def c_laws_toCallerS : ACode := (.seq (.reg false [⟨none, .tk 2 (.k (.nl 11)), []⟩] [0]) (.seq (.reg false [⟨none, .p 5 (.mv (.t 0)), []⟩, ⟨none, .p 6 (.len false (.t 5)), []⟩, ⟨none, .mks 7 (.t 6) (.t 6) [.i .i64 0, .s emp, .s emp, .b false, .b false, .nl 1, .s emp, .nl 1, .b false, .s emp, .nl 1] 168, []⟩, ⟨none, .asg 3 (.t 7), []⟩] [0, 3]) (.seq (.seq (.reg false [⟨none, .asg 4 (.k (.i .i64 0)), []⟩] [0, 3, 4]) (.block 0 (.loop [0, 3, 4] (.seq (.seq (.reg false [⟨none, .p 8 (.mv (.t 4)), []⟩, ⟨none, .p 9 (.mv (.t 0)), []⟩, ⟨none, .p 10 (.len false (.t 9)), []⟩, ⟨none, .p 11 (.bin .lss (.t 8) (.t 10)), []⟩] [0, 3, 4, 11]) (.cond (.t 11) .skip (.exit 0 [3]))) (.seq (.block 1 (.reg false [⟨none, .p 14 (.mv (.t 3)), []⟩, ⟨none, .p 15 (.mv (.t 4)), []⟩, ⟨none, .p 16 (.mv (.t 0)), []⟩, ⟨none, .p 17 (.mv (.t 4)), []⟩, ⟨none, .p 18 (.ia (.t 16) (.t 17) 11), []⟩, ⟨none, .p 19 (.ld (.t 18) 0 11 true), []⟩, ⟨none, .call (some 20) 63 [.rd (.t 19)], []⟩, ⟨none, .p 21 (.ia (.t 14) (.t 15) 11), []⟩, ⟨none, .st (.t 21) (.t 20) 11, []⟩] [0, 3, 4])) (.reg false [⟨none, .p 12 (.mv (.t 4)), []⟩, ⟨none, .p 13 (.bin .add (.t 12) (.k (.i .i64 1))), []⟩, ⟨none, .asg 4 (.t 13), []⟩] [0, 3, 4])))))) (.seq (.reg false [⟨none, .p 22 (.mv (.t 3)), []⟩, ⟨none, .tk 2 (.t 22), []⟩] [2]) .ret))))
theorem code_laws_toCallerS : ∃ c, Tryz.f27.body = some c ∧ cfit PP 23 c c_laws_toCallerS = true := by
  refine ⟨_, (rfl : Tryz.f27.body = some _), ?_⟩
  kernel_rfl
theorem t_toCallerS {G : Glob} (xs : List XCaller) (hm : msL XCaller.ms xs ≤ 1048576) : FnD PP G 27 [.val false [.vw none [] (.sl .ow 11 (xs.map XCaller.row))]] [] [] [.v false [.ow (.sl .ow 11 (xs.map XCaller.row))]] [] [] := by
  obtain ⟨cc, hb, hcf⟩ := code_laws_toCallerS
  refine fn_ok (fn := Tryz.f27) (specs := [.t 2]) (by kernel_rfl) hb (by show (23:Nat) ≤ 10000; omega) hcf (by kernel_rfl) (by show (1:Nat) ≤ 23; omega) (by simp) (by simp) rfl rfl (by simp) rfl ?_
  simp only [c_laws_toCallerS]
  try simp only [msL] at hm
  simp only [push_cast, ↓reduceIte, Nat.reduceEqDiff, Nat.reduceLT, Nat.reduceLeDiff, Nat.reduceAdd, Nat.reduceMul, Nat.reduceSub, Nat.reduceDiv, Nat.reduceMod, Nat.reduceBEq, reduceCtorEq, Int.toNat_natCast, Int.reduceToNat, Option.some.injEq, Nat.le_refl, List.take_length]
  refine ⟨⟨by omega, by omega, by omega⟩, ?_⟩
  have hrep : List.replicate xs.length [T.lit (.int .i64 0), T.lit (.string emp), T.lit (.string emp), T.lit (.bool false), T.lit (.bool false), T.sl .ow 1 [], T.lit (.string emp), T.sl .ow 1 [], T.lit (.bool false), T.lit (.string emp), T.sl .ow 1 []] = (xs.take 0 ++ List.replicate (xs.length - 0) XCaller.zero).map XCaller.row := by
    simp only [List.take_zero, List.nil_append, Nat.sub_zero, List.map_replicate]
    rfl
  rw [hrep]
  clear hrep
  refine cwp_loop (fun i : Nat => ⟨[(0, .val false [.vw none [] (.sl .ow 11 (xs.map XCaller.row))]), (3, .val false [.ow (.sl .ow 11 ((xs.take i ++ List.replicate (xs.length - i) XCaller.zero).map XCaller.row))]), (4, .val false [.ow (.lit (.int .i64 i))])], []⟩)
    (fun i => i ≤ xs.length) (fun i => xs.length - i) 0 rfl (by simp [St.norm, nmL, nmA, nmC, St.get, getL, keyB, nmPl, nmKs]) (by omega) ?_
  intro i hle
  simp only [push_cast, ↓reduceIte, Nat.reduceEqDiff, Nat.reduceLT, Nat.reduceLeDiff, Nat.reduceAdd, Nat.reduceMul, Nat.reduceSub, Nat.reduceDiv, Nat.reduceMod, Nat.reduceBEq, reduceCtorEq, Int.toNat_natCast, Int.reduceToNat, Option.some.injEq, Nat.le_refl, List.take_length]
  refine cnd_dec (fun hlt => ?_) (fun hge => ?_)
  · have hi : i < xs.length := by omega
    have hl : (xs.take i ++ List.replicate (xs.length - i) XCaller.zero).length = xs.length := by simp; omega
    have hi2 : i < (xs.take i ++ List.replicate (xs.length - i) XCaller.zero).length := by omega
    simp only [push_cast, ↓reduceIte, Nat.reduceEqDiff, Nat.reduceLT, Nat.reduceLeDiff, Nat.reduceAdd, Nat.reduceMul, Nat.reduceSub, Nat.reduceDiv, Nat.reduceMod, Nat.reduceBEq, reduceCtorEq, Int.toNat_natCast, Int.reduceToNat, Option.some.injEq, Nat.le_refl, List.take_length, getD_map hi, XCaller.row]
    refine ⟨⟨by omega, by omega⟩, ?_⟩
    have hc := t_toCaller (G := G) xs[i] (by have := sum_mem XCaller.ms xs i hi; omega)
    simp only [XCaller.vw, XCaller.own] at hc
    refine call_ok hc ?_
    clear hc
    simp only [push_cast, ↓reduceIte, Nat.reduceEqDiff, Nat.reduceLT, Nat.reduceLeDiff, Nat.reduceAdd, Nat.reduceMul, Nat.reduceSub, Nat.reduceDiv, Nat.reduceMod, Nat.reduceBEq, reduceCtorEq, Int.toNat_natCast, Int.reduceToNat, Option.some.injEq, Nat.le_refl, List.take_length, getD_map hi2, XCaller.row]
    repeat (first | refine And.intro (by omega) ?_ | refine And.intro ⟨by omega, by omega⟩ ?_ | refine And.intro ⟨by omega, by omega, by omega⟩ ?_)
    refine ⟨i + 1, ?_, by omega, by omega⟩
    rw [wrap64 (by omega) (by omega)]
    rw [modf XCaller.row _ i xs[i] (fun a => rfl), copy_step XCaller.zero hi]
    simp
  · have hi : i = xs.length := by omega
    subst hi
    have e : xs.take xs.length ++ List.replicate (xs.length - xs.length) XCaller.zero = xs := by simp
    rw [e]
    simp only [push_cast, ↓reduceIte, Nat.reduceEqDiff, Nat.reduceLT, Nat.reduceLeDiff, Nat.reduceAdd, Nat.reduceMul, Nat.reduceSub, Nat.reduceDiv, Nat.reduceMod, Nat.reduceBEq, reduceCtorEq, Int.toNat_natCast, Int.reduceToNat, Option.some.injEq, Nat.le_refl, List.take_length]
    try rw [show xs.length = (xs.map XCaller.row).length by simp, List.take_length]

noncomputable def c_laws_toGroup : ACode := (.seq (.reg false [⟨none, .box 1 (.t 0), []⟩, ⟨none, .alloc 2 [.s emp, .nl 1], []⟩] [1, 2, 10001, 10002]) (.seq (.reg false [⟨none, .alloc 3 [.s emp, .nl 1], []⟩] [1, 2, 3, 10001, 10002, 10003]) (.seq (.reg false [⟨none, .p 4 (.fa (.t 1) 0 0), []⟩, ⟨none, .p 5 (.ld (.t 4) 0 1 false), []⟩, ⟨none, .p 6 (.fa (.t 3) 0 0), []⟩, ⟨none, .st (.t 6) (.t 5) 1, []⟩] [1, 2, 3, 10001, 10002, 10003]) (.seq (.reg false [⟨none, .p 7 (.fa (.t 1) 0 1), []⟩, ⟨none, .p 8 (.ld (.t 7) 0 1 false), []⟩, ⟨none, .call (some 9) 106 [.rd (.t 8)], []⟩, ⟨none, .p 10 (.fa (.t 3) 0 1), []⟩, ⟨none, .st (.t 10) (.t 9) 1, []⟩] [2, 3, 10002, 10003]) (.seq (.reg false [⟨none, .p 11 (.ld (.t 3) 0 2 true), []⟩, ⟨none, .st (.t 2) (.t 11) 2, []⟩] [2, 10002]) .ret)))))
theorem code_laws_toGroup : ∃ c, Tryz.f150.body = some c ∧ cfit PP 12 c c_laws_toGroup = true := by
  refine ⟨_, (rfl : Tryz.f150.body = some _), ?_⟩
  kernel_rfl
theorem t_toGroup {G : Glob} (a : XGroup) (hm : a.ms ≤ 1048576) : FnD PP G 150 [.val true a.vw] [] [] [.v true a.own] [] [] := by
  obtain ⟨cc, hb, hcf⟩ := code_laws_toGroup
  refine fn_ok (fn := Tryz.f150) (specs := [.c 2 2]) (by kernel_rfl) hb (by show (12:Nat) ≤ 10000; omega) hcf (by kernel_rfl) (by show (1:Nat) ≤ 12; omega) (by simp) (by simp) rfl rfl (by simp) rfl ?_
  simp only [c_laws_toGroup]
  simp only [XGroup.ms] at hm
  simp only [XGroup.vw, XGroup.own]
  simp only [push_cast, ↓reduceIte, Nat.reduceEqDiff, Nat.reduceLT, Nat.reduceLeDiff, Nat.reduceAdd, Nat.reduceMul, Nat.reduceSub, Nat.reduceDiv, Nat.reduceMod, Nat.reduceBEq, reduceCtorEq, Int.toNat_natCast, Int.reduceToNat, Option.some.injEq, Nat.le_refl, List.take_length]
  have hc := t_toStringS (G := G) a.Members (by omega)
  refine call_ok hc ?_
  clear hc
  simp only [push_cast, ↓reduceIte, Nat.reduceEqDiff, Nat.reduceLT, Nat.reduceLeDiff, Nat.reduceAdd, Nat.reduceMul, Nat.reduceSub, Nat.reduceDiv, Nat.reduceMod, Nat.reduceBEq, reduceCtorEq, Int.toNat_natCast, Int.reduceToNat, Option.some.injEq, Nat.le_refl, List.take_length]

noncomputable def c_laws_toGroupS : ACode := (.seq (.reg false [⟨none, .tk 2 (.k (.nl 2)), []⟩] [0]) (.seq (.reg false [⟨none, .p 5 (.mv (.t 0)), []⟩, ⟨none, .p 6 (.len false (.t 5)), []⟩, ⟨none, .mks 7 (.t 6) (.t 6) [.s emp, .nl 1] 40, []⟩, ⟨none, .asg 3 (.t 7), []⟩] [0, 3]) (.seq (.seq (.reg false [⟨none, .asg 4 (.k (.i .i64 0)), []⟩] [0, 3, 4]) (.block 0 (.loop [0, 3, 4] (.seq (.seq (.reg false [⟨none, .p 8 (.mv (.t 4)), []⟩, ⟨none, .p 9 (.mv (.t 0)), []⟩, ⟨none, .p 10 (.len false (.t 9)), []⟩, ⟨none, .p 11 (.bin .lss (.t 8) (.t 10)), []⟩] [0, 3, 4, 11]) (.cond (.t 11) .skip (.exit 0 [3]))) (.seq (.block 1 (.reg false [⟨none, .p 14 (.mv (.t 3)), []⟩, ⟨none, .p 15 (.mv (.t 4)), []⟩, ⟨none, .p 16 (.mv (.t 0)), []⟩, ⟨none, .p 17 (.mv (.t 4)), []⟩, ⟨none, .p 18 (.ia (.t 16) (.t 17) 2), []⟩, ⟨none, .p 19 (.ld (.t 18) 0 2 true), []⟩, ⟨none, .call (some 20) 150 [.rd (.t 19)], []⟩, ⟨none, .p 21 (.ia (.t 14) (.t 15) 2), []⟩, ⟨none, .st (.t 21) (.t 20) 2, []⟩] [0, 3, 4])) (.reg false [⟨none, .p 12 (.mv (.t 4)), []⟩, ⟨none, .p 13 (.bin .add (.t 12) (.k (.i .i64 1))), []⟩, ⟨none, .asg 4 (.t 13), []⟩] [0, 3, 4])))))) (.seq (.reg false [⟨none, .p 22 (.mv (.t 3)), []⟩, ⟨none, .tk 2 (.t 22), []⟩] [2]) .ret))))
theorem code_laws_toGroupS : ∃ c, Tryz.f107.body = some c ∧ cfit PP 23 c c_laws_toGroupS = true := by
  refine ⟨_, (rfl : Tryz.f107.body = some _), ?_⟩
  kernel_rfl
theorem t_toGroupS {G : Glob} (xs : List XGroup) (hm : msL XGroup.ms xs ≤ 1048576) : FnD PP G 107 [.val false [.vw none [] (.sl .ow 2 (xs.map XGroup.row))]] [] [] [.v false [.ow (.sl .ow 2 (xs.map XGroup.row))]] [] [] := by
  obtain ⟨cc, hb, hcf⟩ := code_laws_toGroupS
  refine fn_ok (fn := Tryz.f107) (specs := [.t 2]) (by kernel_rfl) hb (by show (23:Nat) ≤ 10000; omega) hcf (by kernel_rfl) (by show (1:Nat) ≤ 23; omega) (by simp) (by simp) rfl rfl (by simp) rfl ?_
  simp only [c_laws_toGroupS]
  try simp only [msL] at hm
  simp only [push_cast, ↓reduceIte, Nat.reduceEqDiff, Nat.reduceLT, Nat.reduceLeDiff, Nat.reduceAdd, Nat.reduceMul, Nat.reduceSub, Nat.reduceDiv, Nat.reduceMod, Nat.reduceBEq, reduceCtorEq, Int.toNat_natCast, Int.reduceToNat, Option.some.injEq, Nat.le_refl, List.take_length]
  refine ⟨⟨by omega, by omega, by omega⟩, ?_⟩
  have hrep : List.replicate xs.length [T.lit (.string emp), T.sl .ow 1 []] = (xs.take 0 ++ List.replicate (xs.length - 0) XGroup.zero).map XGroup.row := by
    simp only [List.take_zero, List.nil_append, Nat.sub_zero, List.map_replicate]
    rfl
  rw [hrep]
  clear hrep
  refine cwp_loop (fun i : Nat => ⟨[(0, .val false [.vw none [] (.sl .ow 2 (xs.map XGroup.row))]), (3, .val false [.ow (.sl .ow 2 ((xs.take i ++ List.replicate (xs.length - i) XGroup.zero).map XGroup.row))]), (4, .val false [.ow (.lit (.int .i64 i))])], []⟩)
    (fun i => i ≤ xs.length) (fun i => xs.length - i) 0 rfl (by simp [St.norm, nmL, nmA, nmC, St.get, getL, keyB, nmPl, nmKs]) (by omega) ?_
  intro i hle
  simp only [push_cast, ↓reduceIte, Nat.reduceEqDiff, Nat.reduceLT, Nat.reduceLeDiff, Nat.reduceAdd, Nat.reduceMul, Nat.reduceSub, Nat.reduceDiv, Nat.reduceMod, Nat.reduceBEq, reduceCtorEq, Int.toNat_natCast, Int.reduceToNat, Option.some.injEq, Nat.le_refl, List.take_length]
  refine cnd_dec (fun hlt => ?_) (fun hge => ?_)
  · have hi : i < xs.length := by omega
    have hl : (xs.take i ++ List.replicate (xs.length - i) XGroup.zero).length = xs.length := by simp; omega
    have hi2 : i < (xs.take i ++ List.replicate (xs.length - i) XGroup.zero).length := by omega
    simp only [push_cast, ↓reduceIte, Nat.reduceEqDiff, Nat.reduceLT, Nat.reduceLeDiff, Nat.reduceAdd, Nat.reduceMul, Nat.reduceSub, Nat.reduceDiv, Nat.reduceMod, Nat.reduceBEq, reduceCtorEq, Int.toNat_natCast, Int.reduceToNat, Option.some.injEq, Nat.le_refl, List.take_length, getD_map hi, XGroup.row]
    refine ⟨⟨by omega, by omega⟩, ?_⟩
    have hc := t_toGroup (G := G) xs[i] (by have := sum_mem XGroup.ms xs i hi; omega)
    simp only [XGroup.vw, XGroup.own] at hc
    refine call_ok hc ?_
    clear hc
    simp only [push_cast, ↓reduceIte, Nat.reduceEqDiff, Nat.reduceLT, Nat.reduceLeDiff, Nat.reduceAdd, Nat.reduceMul, Nat.reduceSub, Nat.reduceDiv, Nat.reduceMod, Nat.reduceBEq, reduceCtorEq, Int.toNat_natCast, Int.reduceToNat, Option.some.injEq, Nat.le_refl, List.take_length, getD_map hi2, XGroup.row]
    repeat (first | refine And.intro (by omega) ?_ | refine And.intro ⟨by omega, by omega⟩ ?_ | refine And.intro ⟨by omega, by omega, by omega⟩ ?_)
    refine ⟨i + 1, ?_, by omega, by omega⟩
    rw [wrap64 (by omega) (by omega)]
    rw [modf XGroup.row _ i xs[i] (fun a => rfl), copy_step XGroup.zero hi]
    simp
  · have hi : i = xs.length := by omega
    subst hi
    have e : xs.take xs.length ++ List.replicate (xs.length - xs.length) XGroup.zero = xs := by simp
    rw [e]
    simp only [push_cast, ↓reduceIte, Nat.reduceEqDiff, Nat.reduceLT, Nat.reduceLeDiff, Nat.reduceAdd, Nat.reduceMul, Nat.reduceSub, Nat.reduceDiv, Nat.reduceMod, Nat.reduceBEq, reduceCtorEq, Int.toNat_natCast, Int.reduceToNat, Option.some.injEq, Nat.le_refl, List.take_length]
    try rw [show xs.length = (xs.map XGroup.row).length by simp, List.take_length]

noncomputable def c_laws_toTable : ACode := (.seq (.reg false [⟨none, .box 1 (.t 0), []⟩, ⟨none, .alloc 2 [.nl 2], []⟩] [1, 2, 10001, 10002]) (.seq (.reg false [⟨none, .alloc 3 [.nl 2], []⟩] [1, 2, 3, 10001, 10002, 10003]) (.seq (.reg false [⟨none, .p 4 (.fa (.t 1) 0 0), []⟩, ⟨none, .p 5 (.ld (.t 4) 0 1 false), []⟩, ⟨none, .call (some 6) 107 [.rd (.t 5)], []⟩, ⟨none, .p 7 (.fa (.t 3) 0 0), []⟩, ⟨none, .st (.t 7) (.t 6) 1, []⟩] [2, 3, 10002, 10003]) (.seq (.reg false [⟨none, .p 8 (.ld (.t 3) 0 1 true), []⟩, ⟨none, .st (.t 2) (.t 8) 1, []⟩] [2, 10002]) .ret))))
theorem code_laws_toTable : ∃ c, Tryz.f64.body = some c ∧ cfit PP 9 c c_laws_toTable = true := by
  refine ⟨_, (rfl : Tryz.f64.body = some _), ?_⟩
  kernel_rfl
theorem t_toTable {G : Glob} (a : XTable) (hm : a.ms ≤ 1048576) : FnD PP G 64 [.val true a.vw] [] [] [.v true a.own] [] [] := by
  obtain ⟨cc, hb, hcf⟩ := code_laws_toTable
  refine fn_ok (fn := Tryz.f64) (specs := [.c 2 1]) (by kernel_rfl) hb (by show (9:Nat) ≤ 10000; omega) hcf (by kernel_rfl) (by show (1:Nat) ≤ 9; omega) (by simp) (by simp) rfl rfl (by simp) rfl ?_
  simp only [c_laws_toTable]
  simp only [XTable.ms] at hm
  simp only [XTable.vw, XTable.own]
  simp only [push_cast, ↓reduceIte, Nat.reduceEqDiff, Nat.reduceLT, Nat.reduceLeDiff, Nat.reduceAdd, Nat.reduceMul, Nat.reduceSub, Nat.reduceDiv, Nat.reduceMod, Nat.reduceBEq, reduceCtorEq, Int.toNat_natCast, Int.reduceToNat, Option.some.injEq, Nat.le_refl, List.take_length]
  have hc := t_toGroupS (G := G) a.Groups (by omega)
  refine call_ok hc ?_
  clear hc
  simp only [push_cast, ↓reduceIte, Nat.reduceEqDiff, Nat.reduceLT, Nat.reduceLeDiff, Nat.reduceAdd, Nat.reduceMul, Nat.reduceSub, Nat.reduceDiv, Nat.reduceMod, Nat.reduceBEq, reduceCtorEq, Int.toNat_natCast, Int.reduceToNat, Option.some.injEq, Nat.le_refl, List.take_length]

noncomputable def c_laws_toTableS : ACode := (.seq (.reg false [⟨none, .tk 2 (.k (.nl 1)), []⟩] [0]) (.seq (.reg false [⟨none, .p 5 (.mv (.t 0)), []⟩, ⟨none, .p 6 (.len false (.t 5)), []⟩, ⟨none, .mks 7 (.t 6) (.t 6) [.nl 2] 24, []⟩, ⟨none, .asg 3 (.t 7), []⟩] [0, 3]) (.seq (.seq (.reg false [⟨none, .asg 4 (.k (.i .i64 0)), []⟩] [0, 3, 4]) (.block 0 (.loop [0, 3, 4] (.seq (.seq (.reg false [⟨none, .p 8 (.mv (.t 4)), []⟩, ⟨none, .p 9 (.mv (.t 0)), []⟩, ⟨none, .p 10 (.len false (.t 9)), []⟩, ⟨none, .p 11 (.bin .lss (.t 8) (.t 10)), []⟩] [0, 3, 4, 11]) (.cond (.t 11) .skip (.exit 0 [3]))) (.seq (.block 1 (.reg false [⟨none, .p 14 (.mv (.t 3)), []⟩, ⟨none, .p 15 (.mv (.t 4)), []⟩, ⟨none, .p 16 (.mv (.t 0)), []⟩, ⟨none, .p 17 (.mv (.t 4)), []⟩, ⟨none, .p 18 (.ia (.t 16) (.t 17) 1), []⟩, ⟨none, .p 19 (.ld (.t 18) 0 1 true), []⟩, ⟨none, .call (some 20) 64 [.rd (.t 19)], []⟩, ⟨none, .p 21 (.ia (.t 14) (.t 15) 1), []⟩, ⟨none, .st (.t 21) (.t 20) 1, []⟩] [0, 3, 4])) (.reg false [⟨none, .p 12 (.mv (.t 4)), []⟩, ⟨none, .p 13 (.bin .add (.t 12) (.k (.i .i64 1))), []⟩, ⟨none, .asg 4 (.t 13), []⟩] [0, 3, 4])))))) (.seq (.reg false [⟨none, .p 22 (.mv (.t 3)), []⟩, ⟨none, .tk 2 (.t 22), []⟩] [2]) .ret))))
theorem code_laws_toTableS : ∃ c, Tryz.f28.body = some c ∧ cfit PP 23 c c_laws_toTableS = true := by
  refine ⟨_, (rfl : Tryz.f28.body = some _), ?_⟩
  kernel_rfl
theorem t_toTableS {G : Glob} (xs : List XTable) (hm : msL XTable.ms xs ≤ 1048576) : FnD PP G 28 [.val false [.vw none [] (.sl .ow 1 (xs.map XTable.row))]] [] [] [.v false [.ow (.sl .ow 1 (xs.map XTable.row))]] [] [] := by
  obtain ⟨cc, hb, hcf⟩ := code_laws_toTableS
  refine fn_ok (fn := Tryz.f28) (specs := [.t 2]) (by kernel_rfl) hb (by show (23:Nat) ≤ 10000; omega) hcf (by kernel_rfl) (by show (1:Nat) ≤ 23; omega) (by simp) (by simp) rfl rfl (by simp) rfl ?_
  simp only [c_laws_toTableS]
  try simp only [msL] at hm
  simp only [push_cast, ↓reduceIte, Nat.reduceEqDiff, Nat.reduceLT, Nat.reduceLeDiff, Nat.reduceAdd, Nat.reduceMul, Nat.reduceSub, Nat.reduceDiv, Nat.reduceMod, Nat.reduceBEq, reduceCtorEq, Int.toNat_natCast, Int.reduceToNat, Option.some.injEq, Nat.le_refl, List.take_length]
  refine ⟨⟨by omega, by omega, by omega⟩, ?_⟩
  have hrep : List.replicate xs.length [T.sl .ow 2 []] = (xs.take 0 ++ List.replicate (xs.length - 0) XTable.zero).map XTable.row := by
    simp only [List.take_zero, List.nil_append, Nat.sub_zero, List.map_replicate]
    rfl
  rw [hrep]
  clear hrep
  refine cwp_loop (fun i : Nat => ⟨[(0, .val false [.vw none [] (.sl .ow 1 (xs.map XTable.row))]), (3, .val false [.ow (.sl .ow 1 ((xs.take i ++ List.replicate (xs.length - i) XTable.zero).map XTable.row))]), (4, .val false [.ow (.lit (.int .i64 i))])], []⟩)
    (fun i => i ≤ xs.length) (fun i => xs.length - i) 0 rfl (by simp [St.norm, nmL, nmA, nmC, St.get, getL, keyB, nmPl, nmKs]) (by omega) ?_
  intro i hle
  simp only [push_cast, ↓reduceIte, Nat.reduceEqDiff, Nat.reduceLT, Nat.reduceLeDiff, Nat.reduceAdd, Nat.reduceMul, Nat.reduceSub, Nat.reduceDiv, Nat.reduceMod, Nat.reduceBEq, reduceCtorEq, Int.toNat_natCast, Int.reduceToNat, Option.some.injEq, Nat.le_refl, List.take_length]
  refine cnd_dec (fun hlt => ?_) (fun hge => ?_)
  · have hi : i < xs.length := by omega
    have hl : (xs.take i ++ List.replicate (xs.length - i) XTable.zero).length = xs.length := by simp; omega
    have hi2 : i < (xs.take i ++ List.replicate (xs.length - i) XTable.zero).length := by omega
    simp only [push_cast, ↓reduceIte, Nat.reduceEqDiff, Nat.reduceLT, Nat.reduceLeDiff, Nat.reduceAdd, Nat.reduceMul, Nat.reduceSub, Nat.reduceDiv, Nat.reduceMod, Nat.reduceBEq, reduceCtorEq, Int.toNat_natCast, Int.reduceToNat, Option.some.injEq, Nat.le_refl, List.take_length, getD_map hi, XTable.row]
    refine ⟨⟨by omega, by omega⟩, ?_⟩
    have hc := t_toTable (G := G) xs[i] (by have := sum_mem XTable.ms xs i hi; omega)
    simp only [XTable.vw, XTable.own] at hc
    refine call_ok hc ?_
    clear hc
    simp only [push_cast, ↓reduceIte, Nat.reduceEqDiff, Nat.reduceLT, Nat.reduceLeDiff, Nat.reduceAdd, Nat.reduceMul, Nat.reduceSub, Nat.reduceDiv, Nat.reduceMod, Nat.reduceBEq, reduceCtorEq, Int.toNat_natCast, Int.reduceToNat, Option.some.injEq, Nat.le_refl, List.take_length, getD_map hi2, XTable.row]
    repeat (first | refine And.intro (by omega) ?_ | refine And.intro ⟨by omega, by omega⟩ ?_ | refine And.intro ⟨by omega, by omega, by omega⟩ ?_)
    refine ⟨i + 1, ?_, by omega, by omega⟩
    rw [wrap64 (by omega) (by omega)]
    rw [modf XTable.row _ i xs[i] (fun a => rfl), copy_step XTable.zero hi]
    simp
  · have hi : i = xs.length := by omega
    subst hi
    have e : xs.take xs.length ++ List.replicate (xs.length - xs.length) XTable.zero = xs := by simp
    rw [e]
    simp only [push_cast, ↓reduceIte, Nat.reduceEqDiff, Nat.reduceLT, Nat.reduceLeDiff, Nat.reduceAdd, Nat.reduceMul, Nat.reduceSub, Nat.reduceDiv, Nat.reduceMod, Nat.reduceBEq, reduceCtorEq, Int.toNat_natCast, Int.reduceToNat, Option.some.injEq, Nat.le_refl, List.take_length]
    try rw [show xs.length = (xs.map XTable.row).length by simp, List.take_length]

noncomputable def c_laws_toHall : ACode := (.seq (.reg false [⟨none, .box 1 (.t 0), []⟩, ⟨none, .alloc 2 [.nl 2, .nl 24, .nl 17, .nl 8, .nl 11, .nl 1, .nl 1], []⟩] [1, 2, 10001, 10002]) (.seq (.reg false [⟨none, .alloc 3 [.nl 2, .nl 24, .nl 17, .nl 8, .nl 11, .nl 1, .nl 1], []⟩] [1, 2, 3, 10001, 10002, 10003]) (.seq (.reg false [⟨none, .p 4 (.fa (.t 1) 0 0), []⟩, ⟨none, .p 5 (.ld (.t 4) 0 4 true), []⟩, ⟨none, .call (some 6) 26 [.rd (.t 5)], []⟩, ⟨none, .p 7 (.fa (.t 3) 0 0), []⟩, ⟨none, .st (.t 7) (.t 6) 4, []⟩] [1, 2, 3, 10001, 10002, 10003]) (.seq (.reg false [⟨none, .p 8 (.fa (.t 1) 0 4), []⟩, ⟨none, .p 9 (.ld (.t 8) 0 1 false), []⟩, ⟨none, .call (some 10) 27 [.rd (.t 9)], []⟩, ⟨none, .p 11 (.fa (.t 3) 0 4), []⟩, ⟨none, .st (.t 11) (.t 10) 1, []⟩] [1, 2, 3, 10001, 10002, 10003]) (.seq (.reg false [⟨none, .p 12 (.fa (.t 1) 0 5), []⟩, ⟨none, .p 13 (.ld (.t 12) 0 1 false), []⟩, ⟨none, .call (some 14) 28 [.rd (.t 13)], []⟩, ⟨none, .p 15 (.fa (.t 3) 0 5), []⟩, ⟨none, .st (.t 15) (.t 14) 1, []⟩] [1, 2, 3, 10001, 10002, 10003]) (.seq (.reg false [⟨none, .p 16 (.fa (.t 1) 0 6), []⟩, ⟨none, .p 17 (.ld (.t 16) 0 1 false), []⟩, ⟨none, .call (some 18) 29 [.rd (.t 17)], []⟩, ⟨none, .p 19 (.fa (.t 3) 0 6), []⟩, ⟨none, .st (.t 19) (.t 18) 1, []⟩] [2, 3, 10002, 10003]) (.seq (.reg false [⟨none, .p 20 (.ld (.t 3) 0 7 true), []⟩, ⟨none, .st (.t 2) (.t 20) 7, []⟩] [2, 10002]) .ret)))))))
theorem code_laws_toHall : ∃ c, Tryz.f7.body = some c ∧ cfit PP 21 c c_laws_toHall = true := by
  refine ⟨_, (rfl : Tryz.f7.body = some _), ?_⟩
  kernel_rfl
theorem t_toHall {G : Glob} (a : XHall) (hm : a.ms ≤ 1048576) : FnD PP G 7 [.val true a.vw] [] [] [.v true a.own] [] [] := by
  obtain ⟨cc, hb, hcf⟩ := code_laws_toHall
  refine fn_ok (fn := Tryz.f7) (specs := [.c 2 7]) (by kernel_rfl) hb (by show (21:Nat) ≤ 10000; omega) hcf (by kernel_rfl) (by show (1:Nat) ≤ 21; omega) (by simp) (by simp) rfl rfl (by simp) rfl ?_
  simp only [c_laws_toHall]
  simp only [XHall.ms] at hm
  simp only [XHall.vw, XHall.own]
  simp only [push_cast, ↓reduceIte, Nat.reduceEqDiff, Nat.reduceLT, Nat.reduceLeDiff, Nat.reduceAdd, Nat.reduceMul, Nat.reduceSub, Nat.reduceDiv, Nat.reduceMod, Nat.reduceBEq, reduceCtorEq, Int.toNat_natCast, Int.reduceToNat, Option.some.injEq, Nat.le_refl, List.take_length]
  have hc := t_toWorld (G := G) a.World (by omega)
  simp only [XWorld.vw, XWorld.own] at hc
  refine call_ok hc ?_
  clear hc
  simp only [push_cast, ↓reduceIte, Nat.reduceEqDiff, Nat.reduceLT, Nat.reduceLeDiff, Nat.reduceAdd, Nat.reduceMul, Nat.reduceSub, Nat.reduceDiv, Nat.reduceMod, Nat.reduceBEq, reduceCtorEq, Int.toNat_natCast, Int.reduceToNat, Option.some.injEq, Nat.le_refl, List.take_length]
  have hc := t_toCallerS (G := G) a.Callers (by omega)
  refine call_ok hc ?_
  clear hc
  simp only [push_cast, ↓reduceIte, Nat.reduceEqDiff, Nat.reduceLT, Nat.reduceLeDiff, Nat.reduceAdd, Nat.reduceMul, Nat.reduceSub, Nat.reduceDiv, Nat.reduceMod, Nat.reduceBEq, reduceCtorEq, Int.toNat_natCast, Int.reduceToNat, Option.some.injEq, Nat.le_refl, List.take_length]
  have hc := t_toTableS (G := G) a.Tables (by omega)
  refine call_ok hc ?_
  clear hc
  simp only [push_cast, ↓reduceIte, Nat.reduceEqDiff, Nat.reduceLT, Nat.reduceLeDiff, Nat.reduceAdd, Nat.reduceMul, Nat.reduceSub, Nat.reduceDiv, Nat.reduceMod, Nat.reduceBEq, reduceCtorEq, Int.toNat_natCast, Int.reduceToNat, Option.some.injEq, Nat.le_refl, List.take_length]
  have hc := t_toIntS (G := G) a.Seen (by omega)
  refine call_ok hc ?_
  clear hc
  simp only [push_cast, ↓reduceIte, Nat.reduceEqDiff, Nat.reduceLT, Nat.reduceLeDiff, Nat.reduceAdd, Nat.reduceMul, Nat.reduceSub, Nat.reduceDiv, Nat.reduceMod, Nat.reduceBEq, reduceCtorEq, Int.toNat_natCast, Int.reduceToNat, Option.some.injEq, Nat.le_refl, List.take_length]

end Go.Eng
