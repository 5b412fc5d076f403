/- Harness: printed by hgen.py. -/
import Derived.Test.YtpgdmpihbfmnfaaGreatHA
set_option linter.unusedSimpArgs false
set_option linter.unusedVariables false
set_option maxRecDepth 100000
namespace Go.Eng
open Go.Proofs
noncomputable def c_laws_szIntS : ACode := (.seq (.reg false [⟨none, .tk 4 (.k (.i .i64 0)), []⟩] [0, 1]) (.seq (.reg false [⟨none, .p 5 (.mv (.t 1)), []⟩, ⟨none, .p 6 (.mv (.t 0)), []⟩, ⟨none, .p 7 (.len false (.t 6)), []⟩, ⟨none, .p 8 (.bin .sub (.t 5) (.t 7)), []⟩, ⟨none, .asg 1 (.t 8), []⟩] [1]) (.seq (.seq (.reg false [⟨none, .p 9 (.mv (.t 1)), []⟩, ⟨none, .p 10 (.bin .lss (.t 9) (.k (.i .i64 0))), []⟩] [1, 10]) (.cond (.t 10) (.seq (.reg false [⟨none, .tk 4 (.k (.i .i64 (-1))), []⟩] [4]) .ret) .skip)) (.seq (.reg false [⟨none, .p 11 (.mv (.t 1)), []⟩, ⟨none, .tk 4 (.t 11), []⟩] [4]) .ret))))
theorem code_laws_szIntS : ∃ c, Tryz.f24.body = some c ∧ cfit PP 12 c c_laws_szIntS = true := by
  refine ⟨_, (rfl : Tryz.f24.body = some _), ?_⟩
  kernel_rfl
theorem t_szIntS {G : Glob} (xs : List Int) (n : Int) (h1 : ((xs.length : Nat) : Int) ≤ n) (h2 : n ≤ 1048576) : FnD PP G 24 [.val false [.vw none [] (.sl .ow 1 (xs.map intR))], .val false [.ow (.lit (.int .i64 n))]] [] []
    [.v false [.ow (.lit (.int .i64 (n - (xs.length : Nat))))]] [] [] := by
  obtain ⟨cc, hb, hcf⟩ := code_laws_szIntS
  refine fn_ok (fn := Tryz.f24) (specs := [.t 4]) (by kernel_rfl) hb (by show (12:Nat) ≤ 10000; omega) hcf (by kernel_rfl) (by show (2:Nat) ≤ 12; omega) (by simp) (by simp) rfl rfl (by simp) rfl ?_
  simp only [c_laws_szIntS]
  simp only [push_cast, ↓reduceIte, Nat.reduceEqDiff, Nat.reduceLT, Nat.reduceLeDiff, Nat.reduceAdd, Nat.reduceMul, Nat.reduceSub, Nat.reduceDiv, Nat.reduceMod, Nat.reduceBEq, reduceCtorEq, Int.toNat_natCast, Int.reduceToNat, Option.some.injEq, Nat.le_refl, List.take_length]
  rw [wrap64 (by omega) (by omega)]
  refine cnd_dec (fun hne => by omega) (fun _ => ?_)
  simp only [push_cast, ↓reduceIte, Nat.reduceEqDiff, Nat.reduceLT, Nat.reduceLeDiff, Nat.reduceAdd, Nat.reduceMul, Nat.reduceSub, Nat.reduceDiv, Nat.reduceMod, Nat.reduceBEq, reduceCtorEq, Int.toNat_natCast, Int.reduceToNat, Option.some.injEq, Nat.le_refl, List.take_length]

noncomputable def c_laws_szRing : ACode := (.seq (.reg false [⟨none, .box 2 (.t 0), []⟩, ⟨none, .tk 4 (.k (.i .i64 0)), []⟩] [1, 2, 10002]) (.seq (.reg false [⟨none, .p 5 (.fa (.t 2) 0 1), []⟩, ⟨none, .p 6 (.ld (.t 5) 0 1 false), []⟩, ⟨none, .p 7 (.mv (.t 1)), []⟩, ⟨none, .call (some 8) 24 [.rd (.t 6), .rd (.t 7)], []⟩, ⟨none, .asg 1 (.t 8), []⟩] [1]) (.seq (.seq (.reg false [⟨none, .p 9 (.mv (.t 1)), []⟩, ⟨none, .p 10 (.bin .lss (.t 9) (.k (.i .i64 0))), []⟩] [1, 10]) (.cond (.t 10) (.seq (.reg false [⟨none, .tk 4 (.k (.i .i64 (-1))), []⟩] [4]) .ret) .skip)) (.seq (.reg false [⟨none, .p 11 (.mv (.t 1)), []⟩, ⟨none, .tk 4 (.t 11), []⟩] [4]) .ret))))
theorem code_laws_szRing : ∃ c, Tryz.f92.body = some c ∧ cfit PP 12 c c_laws_szRing = true := by
  refine ⟨_, (rfl : Tryz.f92.body = some _), ?_⟩
  kernel_rfl
theorem t_szRing {G : Glob} (a : XRing) (n : Int) (h1 : (a.ms : Int) ≤ n) (h2 : n ≤ 1048576) : FnD PP G 92 [.val true a.vw, .val false [.ow (.lit (.int .i64 n))]] [] []
    [.v false [.ow (.lit (.int .i64 (n - a.ms)))]] [] [] := by
  obtain ⟨cc, hb, hcf⟩ := code_laws_szRing
  refine fn_ok (fn := Tryz.f92) (specs := [.t 4]) (by kernel_rfl) hb (by show (12:Nat) ≤ 10000; omega) hcf (by kernel_rfl) (by show (2:Nat) ≤ 12; omega) (by simp) (by simp) rfl rfl (by simp) rfl ?_
  simp only [c_laws_szRing]
  simp only [XRing.vw]
  simp only [XRing.ms, Int.natCast_add] at h1 ⊢
  simp only [push_cast, ↓reduceIte, Nat.reduceEqDiff, Nat.reduceLT, Nat.reduceLeDiff, Nat.reduceAdd, Nat.reduceMul, Nat.reduceSub, Nat.reduceDiv, Nat.reduceMod, Nat.reduceBEq, reduceCtorEq, Int.toNat_natCast, Int.reduceToNat, Option.some.injEq, Nat.le_refl, List.take_length]
  have hc := t_szIntS (G := G) a.Members (n) (by omega) (by omega)
  refine call_ok hc ?_
  clear hc
  simp only [push_cast, ↓reduceIte, Nat.reduceEqDiff, Nat.reduceLT, Nat.reduceLeDiff, Nat.reduceAdd, Nat.reduceMul, Nat.reduceSub, Nat.reduceDiv, Nat.reduceMod, Nat.reduceBEq, reduceCtorEq, Int.toNat_natCast, Int.reduceToNat, Option.some.injEq, Nat.le_refl, List.take_length]
  refine cnd_dec (fun hne => by omega) (fun _ => ?_)
  simp only [push_cast, ↓reduceIte, Nat.reduceEqDiff, Nat.reduceLT, Nat.reduceLeDiff, Nat.reduceAdd, Nat.reduceMul, Nat.reduceSub, Nat.reduceDiv, Nat.reduceMod, Nat.reduceBEq, reduceCtorEq, Int.toNat_natCast, Int.reduceToNat, Option.some.injEq, Nat.le_refl, List.take_length]
  try simp only [show n - ((a.Members.length : Nat) : Int) = n - (((a.Members.length : Nat) : Int)) from by omega]

noncomputable def c_laws_szRingS : ACode := (.seq (.reg false [⟨none, .tk 4 (.k (.i .i64 0)), []⟩] [0, 1]) (.seq (.reg false [⟨none, .p 6 (.mv (.t 1)), []⟩, ⟨none, .p 7 (.mv (.t 0)), []⟩, ⟨none, .p 8 (.len false (.t 7)), []⟩, ⟨none, .p 9 (.bin .sub (.t 6) (.t 8)), []⟩, ⟨none, .asg 1 (.t 9), []⟩] [0, 1]) (.seq (.seq (.reg false [⟨none, .p 10 (.mv (.t 1)), []⟩, ⟨none, .p 11 (.bin .lss (.t 10) (.k (.i .i64 0))), []⟩] [0, 1, 11]) (.cond (.t 11) (.seq (.reg false [⟨none, .tk 4 (.k (.i .i64 (-1))), []⟩] [4]) .ret) .skip)) (.seq (.seq (.reg false [⟨none, .asg 5 (.k (.i .i64 0)), []⟩] [0, 1, 5]) (.block 0 (.loop [0, 1, 5] (.seq (.seq (.reg false [⟨none, .p 12 (.mv (.t 5)), []⟩, ⟨none, .p 13 (.mv (.t 0)), []⟩, ⟨none, .p 14 (.len false (.t 13)), []⟩, ⟨none, .p 15 (.bin .lss (.t 12) (.t 14)), []⟩] [0, 1, 5, 15]) (.cond (.t 15) .skip (.exit 0 [1]))) (.seq (.block 1 (.seq (.reg false [⟨none, .p 18 (.mv (.t 0)), []⟩, ⟨none, .p 19 (.mv (.t 5)), []⟩, ⟨none, .p 20 (.ia (.t 18) (.t 19) 2), []⟩, ⟨none, .p 21 (.ld (.t 20) 0 2 true), []⟩, ⟨none, .p 22 (.mv (.t 1)), []⟩, ⟨none, .call (some 23) 92 [.rd (.t 21), .rd (.t 22)], []⟩, ⟨none, .asg 1 (.t 23), []⟩] [0, 1, 5]) (.seq (.reg false [⟨none, .p 24 (.mv (.t 1)), []⟩, ⟨none, .p 25 (.bin .lss (.t 24) (.k (.i .i64 0))), []⟩] [0, 1, 5, 25]) (.cond (.t 25) (.seq (.reg false [⟨none, .tk 4 (.k (.i .i64 (-1))), []⟩] [4]) .ret) .skip)))) (.reg false [⟨none, .p 16 (.mv (.t 5)), []⟩, ⟨none, .p 17 (.bin .add (.t 16) (.k (.i .i64 1))), []⟩, ⟨none, .asg 5 (.t 17), []⟩] [0, 1, 5])))))) (.seq (.reg false [⟨none, .p 26 (.mv (.t 1)), []⟩, ⟨none, .tk 4 (.t 26), []⟩] [4]) .ret)))))
theorem code_laws_szRingS : ∃ c, Tryz.f53.body = some c ∧ cfit PP 27 c c_laws_szRingS = true := by
  refine ⟨_, (rfl : Tryz.f53.body = some _), ?_⟩
  kernel_rfl
theorem t_szRingS {G : Glob} (xs : List XRing) (n : Int) (h1 : ((msL XRing.ms xs : Nat) : Int) ≤ n) (h2 : n ≤ 1048576) : FnD PP G 53 [.val false [.vw none [] (.sl .ow 2 (xs.map XRing.row))], .val false [.ow (.lit (.int .i64 n))]] [] []
    [.v false [.ow (.lit (.int .i64 (n - (msL XRing.ms xs : Nat))))]] [] [] := by
  obtain ⟨cc, hb, hcf⟩ := code_laws_szRingS
  refine fn_ok (fn := Tryz.f53) (specs := [.t 4]) (by kernel_rfl) hb (by show (27:Nat) ≤ 10000; omega) hcf (by kernel_rfl) (by show (2:Nat) ≤ 27; omega) (by simp) (by simp) rfl rfl (by simp) rfl ?_
  simp only [c_laws_szRingS]
  simp only [msL, Int.natCast_add] at h1 ⊢
  simp only [push_cast, ↓reduceIte, Nat.reduceEqDiff, Nat.reduceLT, Nat.reduceLeDiff, Nat.reduceAdd, Nat.reduceMul, Nat.reduceSub, Nat.reduceDiv, Nat.reduceMod, Nat.reduceBEq, reduceCtorEq, Int.toNat_natCast, Int.reduceToNat, Option.some.injEq, Nat.le_refl, List.take_length]
  rw [wrap64 (by omega) (by omega)]
  refine cnd_dec (fun hne => by omega) (fun _ => ?_)
  simp only [push_cast, ↓reduceIte, Nat.reduceEqDiff, Nat.reduceLT, Nat.reduceLeDiff, Nat.reduceAdd, Nat.reduceMul, Nat.reduceSub, Nat.reduceDiv, Nat.reduceMod, Nat.reduceBEq, reduceCtorEq, Int.toNat_natCast, Int.reduceToNat, Option.some.injEq, Nat.le_refl, List.take_length]
  refine cwp_loop (fun i : Nat => ⟨[(0, .val false [.vw none [] (.sl .ow 2 (xs.map XRing.row))]), (1, .val false [.ow (.lit (.int .i64 (n - xs.length - (((xs.take i).map XRing.ms).sum : Nat))))]), (5, .val false [.ow (.lit (.int .i64 i))])], []⟩)
    (fun i => i ≤ xs.length) (fun i => xs.length - i) 0 rfl (by simp [St.norm, nmL, nmA, nmC, St.get, getL, keyB, nmPl, nmKs]) (by omega) ?_
  intro i hle
  simp only [push_cast, ↓reduceIte, Nat.reduceEqDiff, Nat.reduceLT, Nat.reduceLeDiff, Nat.reduceAdd, Nat.reduceMul, Nat.reduceSub, Nat.reduceDiv, Nat.reduceMod, Nat.reduceBEq, reduceCtorEq, Int.toNat_natCast, Int.reduceToNat, Option.some.injEq, Nat.le_refl, List.take_length]
  refine cnd_dec (fun hlt => ?_) (fun hge => ?_)
  · have hi : i < xs.length := by omega
    have hs := sum_take XRing.ms xs i hi
    have hs2 := sum_le XRing.ms xs (i + 1)
    simp only [push_cast, ↓reduceIte, Nat.reduceEqDiff, Nat.reduceLT, Nat.reduceLeDiff, Nat.reduceAdd, Nat.reduceMul, Nat.reduceSub, Nat.reduceDiv, Nat.reduceMod, Nat.reduceBEq, reduceCtorEq, Int.toNat_natCast, Int.reduceToNat, Option.some.injEq, Nat.le_refl, List.take_length]
    · skip
      simp only [push_cast, ↓reduceIte, Nat.reduceEqDiff, Nat.reduceLT, Nat.reduceLeDiff, Nat.reduceAdd, Nat.reduceMul, Nat.reduceSub, Nat.reduceDiv, Nat.reduceMod, Nat.reduceBEq, reduceCtorEq, Int.toNat_natCast, Int.reduceToNat, Option.some.injEq, Nat.le_refl, List.take_length, getD_map hi, XRing.row]
      refine ⟨⟨by omega, by omega⟩, ?_⟩
      have hc := t_szRing (G := G) xs[i] (n - xs.length - (((xs.take i).map XRing.ms).sum : Nat)) (by omega) (by omega)
      simp only [XRing.vw] at hc
      refine call_ok hc ?_
      clear hc
      simp only [push_cast, ↓reduceIte, Nat.reduceEqDiff, Nat.reduceLT, Nat.reduceLeDiff, Nat.reduceAdd, Nat.reduceMul, Nat.reduceSub, Nat.reduceDiv, Nat.reduceMod, Nat.reduceBEq, reduceCtorEq, Int.toNat_natCast, Int.reduceToNat, Option.some.injEq, Nat.le_refl, List.take_length]
      refine cnd_dec (fun hne => by omega) (fun _ => ?_)
      simp only [push_cast, ↓reduceIte, Nat.reduceEqDiff, Nat.reduceLT, Nat.reduceLeDiff, Nat.reduceAdd, Nat.reduceMul, Nat.reduceSub, Nat.reduceDiv, Nat.reduceMod, Nat.reduceBEq, reduceCtorEq, Int.toNat_natCast, Int.reduceToNat, Option.some.injEq, Nat.le_refl, List.take_length]
      refine ⟨i + 1, ?_, by omega, by omega⟩
      rw [wrap64 (by omega) (by omega), hs]
      simp [Int.sub_sub, Int.add_assoc]
  · have hi : i = xs.length := by omega
    subst hi
    simp only [push_cast, ↓reduceIte, Nat.reduceEqDiff, Nat.reduceLT, Nat.reduceLeDiff, Nat.reduceAdd, Nat.reduceMul, Nat.reduceSub, Nat.reduceDiv, Nat.reduceMod, Nat.reduceBEq, reduceCtorEq, Int.toNat_natCast, Int.reduceToNat, Option.some.injEq, Nat.le_refl, List.take_length]
    simp [Int.sub_sub]

noncomputable def c_laws_szItem : ACode := (.seq (.reg false [⟨none, .box 2 (.t 0), []⟩, ⟨none, .tk 4 (.k (.i .i64 0)), []⟩] [1, 2, 10002]) (.seq (.reg false [⟨none, .p 5 (.mv (.t 1)), []⟩, ⟨none, .p 6 (.fa (.t 2) 0 3), []⟩, ⟨none, .p 7 (.ld (.t 6) 0 1 false), []⟩, ⟨none, .p 8 (.len true (.t 7)), []⟩, ⟨none, .p 9 (.bin .sub (.t 5) (.t 8)), []⟩, ⟨none, .asg 1 (.t 9), []⟩] [1]) (.seq (.seq (.reg false [⟨none, .p 10 (.mv (.t 1)), []⟩, ⟨none, .p 11 (.bin .lss (.t 10) (.k (.i .i64 0))), []⟩] [1, 11]) (.cond (.t 11) (.seq (.reg false [⟨none, .tk 4 (.k (.i .i64 (-1))), []⟩] [4]) .ret) .skip)) (.seq (.reg false [⟨none, .p 12 (.mv (.t 1)), []⟩, ⟨none, .tk 4 (.t 12), []⟩] [4]) .ret))))
theorem code_laws_szItem : ∃ c, Tryz.f139.body = some c ∧ cfit PP 13 c c_laws_szItem = true := by
  refine ⟨_, (rfl : Tryz.f139.body = some _), ?_⟩
  kernel_rfl
theorem t_szItem {G : Glob} (a : XItem) (n : Int) (h1 : (a.ms : Int) ≤ n) (h2 : n ≤ 1048576) : FnD PP G 139 [.val true a.vw, .val false [.ow (.lit (.int .i64 n))]] [] []
    [.v false [.ow (.lit (.int .i64 (n - a.ms)))]] [] [] := by
  obtain ⟨cc, hb, hcf⟩ := code_laws_szItem
  refine fn_ok (fn := Tryz.f139) (specs := [.t 4]) (by kernel_rfl) hb (by show (13:Nat) ≤ 10000; omega) hcf (by kernel_rfl) (by show (2:Nat) ≤ 13; omega) (by simp) (by simp) rfl rfl (by simp) rfl ?_
  simp only [c_laws_szItem]
  simp only [XItem.vw]
  simp only [XItem.ms, Int.natCast_add] at h1 ⊢
  simp only [push_cast, ↓reduceIte, Nat.reduceEqDiff, Nat.reduceLT, Nat.reduceLeDiff, Nat.reduceAdd, Nat.reduceMul, Nat.reduceSub, Nat.reduceDiv, Nat.reduceMod, Nat.reduceBEq, reduceCtorEq, Int.toNat_natCast, Int.reduceToNat, Option.some.injEq, Nat.le_refl, List.take_length]
  rw [wrap64 (by omega) (by omega)]
  refine cnd_dec (fun hne => by omega) (fun _ => ?_)
  simp only [push_cast, ↓reduceIte, Nat.reduceEqDiff, Nat.reduceLT, Nat.reduceLeDiff, Nat.reduceAdd, Nat.reduceMul, Nat.reduceSub, Nat.reduceDiv, Nat.reduceMod, Nat.reduceBEq, reduceCtorEq, Int.toNat_natCast, Int.reduceToNat, Option.some.injEq, Nat.le_refl, List.take_length]
  try simp only [show n - ((a.Text.size : Nat) : Int) = n - (((a.Text.size : Nat) : Int)) from by omega]

noncomputable def c_laws_szItemS : ACode := (.seq (.reg false [⟨none, .tk 4 (.k (.i .i64 0)), []⟩] [0, 1]) (.seq (.reg false [⟨none, .p 6 (.mv (.t 1)), []⟩, ⟨none, .p 7 (.mv (.t 0)), []⟩, ⟨none, .p 8 (.len false (.t 7)), []⟩, ⟨none, .p 9 (.bin .sub (.t 6) (.t 8)), []⟩, ⟨none, .asg 1 (.t 9), []⟩] [0, 1]) (.seq (.seq (.reg false [⟨none, .p 10 (.mv (.t 1)), []⟩, ⟨none, .p 11 (.bin .lss (.t 10) (.k (.i .i64 0))), []⟩] [0, 1, 11]) (.cond (.t 11) (.seq (.reg false [⟨none, .tk 4 (.k (.i .i64 (-1))), []⟩] [4]) .ret) .skip)) (.seq (.seq (.reg false [⟨none, .asg 5 (.k (.i .i64 0)), []⟩] [0, 1, 5]) (.block 0 (.loop [0, 1, 5] (.seq (.seq (.reg false [⟨none, .p 12 (.mv (.t 5)), []⟩, ⟨none, .p 13 (.mv (.t 0)), []⟩, ⟨none, .p 14 (.len false (.t 13)), []⟩, ⟨none, .p 15 (.bin .lss (.t 12) (.t 14)), []⟩] [0, 1, 5, 15]) (.cond (.t 15) .skip (.exit 0 [1]))) (.seq (.block 1 (.seq (.reg false [⟨none, .p 18 (.mv (.t 0)), []⟩, ⟨none, .p 19 (.mv (.t 5)), []⟩, ⟨none, .p 20 (.ia (.t 18) (.t 19) 4), []⟩, ⟨none, .p 21 (.ld (.t 20) 0 4 true), []⟩, ⟨none, .p 22 (.mv (.t 1)), []⟩, ⟨none, .call (some 23) 139 [.rd (.t 21), .rd (.t 22)], []⟩, ⟨none, .asg 1 (.t 23), []⟩] [0, 1, 5]) (.seq (.reg false [⟨none, .p 24 (.mv (.t 1)), []⟩, ⟨none, .p 25 (.bin .lss (.t 24) (.k (.i .i64 0))), []⟩] [0, 1, 5, 25]) (.cond (.t 25) (.seq (.reg false [⟨none, .tk 4 (.k (.i .i64 (-1))), []⟩] [4]) .ret) .skip)))) (.reg false [⟨none, .p 16 (.mv (.t 5)), []⟩, ⟨none, .p 17 (.bin .add (.t 16) (.k (.i .i64 1))), []⟩, ⟨none, .asg 5 (.t 17), []⟩] [0, 1, 5])))))) (.seq (.reg false [⟨none, .p 26 (.mv (.t 1)), []⟩, ⟨none, .tk 4 (.t 26), []⟩] [4]) .ret)))))
theorem code_laws_szItemS : ∃ c, Tryz.f180.body = some c ∧ cfit PP 27 c c_laws_szItemS = true := by
  refine ⟨_, (rfl : Tryz.f180.body = some _), ?_⟩
  kernel_rfl
theorem t_szItemS {G : Glob} (xs : List XItem) (n : Int) (h1 : ((msL XItem.ms xs : Nat) : Int) ≤ n) (h2 : n ≤ 1048576) : FnD PP G 180 [.val false [.vw none [] (.sl .ow 4 (xs.map XItem.row))], .val false [.ow (.lit (.int .i64 n))]] [] []
    [.v false [.ow (.lit (.int .i64 (n - (msL XItem.ms xs : Nat))))]] [] [] := by
  obtain ⟨cc, hb, hcf⟩ := code_laws_szItemS
  refine fn_ok (fn := Tryz.f180) (specs := [.t 4]) (by kernel_rfl) hb (by show (27:Nat) ≤ 10000; omega) hcf (by kernel_rfl) (by show (2:Nat) ≤ 27; omega) (by simp) (by simp) rfl rfl (by simp) rfl ?_
  simp only [c_laws_szItemS]
  simp only [msL, Int.natCast_add] at h1 ⊢
  simp only [push_cast, ↓reduceIte, Nat.reduceEqDiff, Nat.reduceLT, Nat.reduceLeDiff, Nat.reduceAdd, Nat.reduceMul, Nat.reduceSub, Nat.reduceDiv, Nat.reduceMod, Nat.reduceBEq, reduceCtorEq, Int.toNat_natCast, Int.reduceToNat, Option.some.injEq, Nat.le_refl, List.take_length]
  rw [wrap64 (by omega) (by omega)]
  refine cnd_dec (fun hne => by omega) (fun _ => ?_)
  simp only [push_cast, ↓reduceIte, Nat.reduceEqDiff, Nat.reduceLT, Nat.reduceLeDiff, Nat.reduceAdd, Nat.reduceMul, Nat.reduceSub, Nat.reduceDiv, Nat.reduceMod, Nat.reduceBEq, reduceCtorEq, Int.toNat_natCast, Int.reduceToNat, Option.some.injEq, Nat.le_refl, List.take_length]
  refine cwp_loop (fun i : Nat => ⟨[(0, .val false [.vw none [] (.sl .ow 4 (xs.map XItem.row))]), (1, .val false [.ow (.lit (.int .i64 (n - xs.length - (((xs.take i).map XItem.ms).sum : Nat))))]), (5, .val false [.ow (.lit (.int .i64 i))])], []⟩)
    (fun i => i ≤ xs.length) (fun i => xs.length - i) 0 rfl (by simp [St.norm, nmL, nmA, nmC, St.get, getL, keyB, nmPl, nmKs]) (by omega) ?_
  intro i hle
  simp only [push_cast, ↓reduceIte, Nat.reduceEqDiff, Nat.reduceLT, Nat.reduceLeDiff, Nat.reduceAdd, Nat.reduceMul, Nat.reduceSub, Nat.reduceDiv, Nat.reduceMod, Nat.reduceBEq, reduceCtorEq, Int.toNat_natCast, Int.reduceToNat, Option.some.injEq, Nat.le_refl, List.take_length]
  refine cnd_dec (fun hlt => ?_) (fun hge => ?_)
  · have hi : i < xs.length := by omega
    have hs := sum_take XItem.ms xs i hi
    have hs2 := sum_le XItem.ms xs (i + 1)
    simp only [push_cast, ↓reduceIte, Nat.reduceEqDiff, Nat.reduceLT, Nat.reduceLeDiff, Nat.reduceAdd, Nat.reduceMul, Nat.reduceSub, Nat.reduceDiv, Nat.reduceMod, Nat.reduceBEq, reduceCtorEq, Int.toNat_natCast, Int.reduceToNat, Option.some.injEq, Nat.le_refl, List.take_length]
    · skip
      simp only [push_cast, ↓reduceIte, Nat.reduceEqDiff, Nat.reduceLT, Nat.reduceLeDiff, Nat.reduceAdd, Nat.reduceMul, Nat.reduceSub, Nat.reduceDiv, Nat.reduceMod, Nat.reduceBEq, reduceCtorEq, Int.toNat_natCast, Int.reduceToNat, Option.some.injEq, Nat.le_refl, List.take_length, getD_map hi, XItem.row]
      refine ⟨⟨by omega, by omega⟩, ?_⟩
      have hc := t_szItem (G := G) xs[i] (n - xs.length - (((xs.take i).map XItem.ms).sum : Nat)) (by omega) (by omega)
      simp only [XItem.vw] at hc
      refine call_ok hc ?_
      clear hc
      simp only [push_cast, ↓reduceIte, Nat.reduceEqDiff, Nat.reduceLT, Nat.reduceLeDiff, Nat.reduceAdd, Nat.reduceMul, Nat.reduceSub, Nat.reduceDiv, Nat.reduceMod, Nat.reduceBEq, reduceCtorEq, Int.toNat_natCast, Int.reduceToNat, Option.some.injEq, Nat.le_refl, List.take_length]
      refine cnd_dec (fun hne => by omega) (fun _ => ?_)
      simp only [push_cast, ↓reduceIte, Nat.reduceEqDiff, Nat.reduceLT, Nat.reduceLeDiff, Nat.reduceAdd, Nat.reduceMul, Nat.reduceSub, Nat.reduceDiv, Nat.reduceMod, Nat.reduceBEq, reduceCtorEq, Int.toNat_natCast, Int.reduceToNat, Option.some.injEq, Nat.le_refl, List.take_length]
      refine ⟨i + 1, ?_, by omega, by omega⟩
      rw [wrap64 (by omega) (by omega), hs]
      simp [Int.sub_sub, Int.add_assoc]
  · have hi : i = xs.length := by omega
    subst hi
    simp only [push_cast, ↓reduceIte, Nat.reduceEqDiff, Nat.reduceLT, Nat.reduceLeDiff, Nat.reduceAdd, Nat.reduceMul, Nat.reduceSub, Nat.reduceDiv, Nat.reduceMod, Nat.reduceBEq, reduceCtorEq, Int.toNat_natCast, Int.reduceToNat, Option.some.injEq, Nat.le_refl, List.take_length]
    simp [Int.sub_sub]

noncomputable def c_laws_szStringS : ACode := (.seq (.reg false [⟨none, .tk 4 (.k (.i .i64 0)), []⟩] [0, 1]) (.seq (.reg false [⟨none, .p 6 (.mv (.t 1)), []⟩, ⟨none, .p 7 (.mv (.t 0)), []⟩, ⟨none, .p 8 (.len false (.t 7)), []⟩, ⟨none, .p 9 (.bin .sub (.t 6) (.t 8)), []⟩, ⟨none, .asg 1 (.t 9), []⟩] [0, 1]) (.seq (.seq (.reg false [⟨none, .p 10 (.mv (.t 1)), []⟩, ⟨none, .p 11 (.bin .lss (.t 10) (.k (.i .i64 0))), []⟩] [0, 1, 11]) (.cond (.t 11) (.seq (.reg false [⟨none, .tk 4 (.k (.i .i64 (-1))), []⟩] [4]) .ret) .skip)) (.seq (.seq (.reg false [⟨none, .asg 5 (.k (.i .i64 0)), []⟩] [0, 1, 5]) (.block 0 (.loop [0, 1, 5] (.seq (.seq (.reg false [⟨none, .p 12 (.mv (.t 5)), []⟩, ⟨none, .p 13 (.mv (.t 0)), []⟩, ⟨none, .p 14 (.len false (.t 13)), []⟩, ⟨none, .p 15 (.bin .lss (.t 12) (.t 14)), []⟩] [0, 1, 5, 15]) (.cond (.t 15) .skip (.exit 0 [1]))) (.seq (.block 1 (.seq (.reg false [⟨none, .p 18 (.mv (.t 1)), []⟩, ⟨none, .p 19 (.mv (.t 0)), []⟩, ⟨none, .p 20 (.mv (.t 5)), []⟩, ⟨none, .p 21 (.ia (.t 19) (.t 20) 1), []⟩, ⟨none, .p 22 (.ld (.t 21) 0 1 false), []⟩, ⟨none, .p 23 (.len true (.t 22)), []⟩, ⟨none, .p 24 (.bin .sub (.t 18) (.t 23)), []⟩, ⟨none, .asg 1 (.t 24), []⟩] [0, 1, 5]) (.seq (.reg false [⟨none, .p 25 (.mv (.t 1)), []⟩, ⟨none, .p 26 (.bin .lss (.t 25) (.k (.i .i64 0))), []⟩] [0, 1, 5, 26]) (.cond (.t 26) (.seq (.reg false [⟨none, .tk 4 (.k (.i .i64 (-1))), []⟩] [4]) .ret) .skip)))) (.reg false [⟨none, .p 16 (.mv (.t 5)), []⟩, ⟨none, .p 17 (.bin .add (.t 16) (.k (.i .i64 1))), []⟩, ⟨none, .asg 5 (.t 17), []⟩] [0, 1, 5])))))) (.seq (.reg false [⟨none, .p 27 (.mv (.t 1)), []⟩, ⟨none, .tk 4 (.t 27), []⟩] [4]) .ret)))))
theorem code_laws_szStringS : ∃ c, Tryz.f98.body = some c ∧ cfit PP 28 c c_laws_szStringS = true := by
  refine ⟨_, (rfl : Tryz.f98.body = some _), ?_⟩
  kernel_rfl
theorem t_szStringS {G : Glob} (xs : List ByteArray) (n : Int) (h1 : ((msL ByteArray.size xs : Nat) : Int) ≤ n) (h2 : n ≤ 1048576) : FnD PP G 98 [.val false [.vw none [] (.sl .ow 1 (xs.map strR))], .val false [.ow (.lit (.int .i64 n))]] [] []
    [.v false [.ow (.lit (.int .i64 (n - (msL ByteArray.size xs : Nat))))]] [] [] := by
  obtain ⟨cc, hb, hcf⟩ := code_laws_szStringS
  refine fn_ok (fn := Tryz.f98) (specs := [.t 4]) (by kernel_rfl) hb (by show (28:Nat) ≤ 10000; omega) hcf (by kernel_rfl) (by show (2:Nat) ≤ 28; omega) (by simp) (by simp) rfl rfl (by simp) rfl ?_
  simp only [c_laws_szStringS]
  simp only [msL, Int.natCast_add] at h1 ⊢
  simp only [push_cast, ↓reduceIte, Nat.reduceEqDiff, Nat.reduceLT, Nat.reduceLeDiff, Nat.reduceAdd, Nat.reduceMul, Nat.reduceSub, Nat.reduceDiv, Nat.reduceMod, Nat.reduceBEq, reduceCtorEq, Int.toNat_natCast, Int.reduceToNat, Option.some.injEq, Nat.le_refl, List.take_length]
  rw [wrap64 (by omega) (by omega)]
  refine cnd_dec (fun hne => by omega) (fun _ => ?_)
  simp only [push_cast, ↓reduceIte, Nat.reduceEqDiff, Nat.reduceLT, Nat.reduceLeDiff, Nat.reduceAdd, Nat.reduceMul, Nat.reduceSub, Nat.reduceDiv, Nat.reduceMod, Nat.reduceBEq, reduceCtorEq, Int.toNat_natCast, Int.reduceToNat, Option.some.injEq, Nat.le_refl, List.take_length]
  refine cwp_loop (fun i : Nat => ⟨[(0, .val false [.vw none [] (.sl .ow 1 (xs.map strR))]), (1, .val false [.ow (.lit (.int .i64 (n - xs.length - (((xs.take i).map ByteArray.size).sum : Nat))))]), (5, .val false [.ow (.lit (.int .i64 i))])], []⟩)
    (fun i => i ≤ xs.length) (fun i => xs.length - i) 0 rfl (by simp [St.norm, nmL, nmA, nmC, St.get, getL, keyB, nmPl, nmKs]) (by omega) ?_
  intro i hle
  simp only [push_cast, ↓reduceIte, Nat.reduceEqDiff, Nat.reduceLT, Nat.reduceLeDiff, Nat.reduceAdd, Nat.reduceMul, Nat.reduceSub, Nat.reduceDiv, Nat.reduceMod, Nat.reduceBEq, reduceCtorEq, Int.toNat_natCast, Int.reduceToNat, Option.some.injEq, Nat.le_refl, List.take_length]
  refine cnd_dec (fun hlt => ?_) (fun hge => ?_)
  · have hi : i < xs.length := by omega
    have hs := sum_take ByteArray.size xs i hi
    have hs2 := sum_le ByteArray.size xs (i + 1)
    simp only [push_cast, ↓reduceIte, Nat.reduceEqDiff, Nat.reduceLT, Nat.reduceLeDiff, Nat.reduceAdd, Nat.reduceMul, Nat.reduceSub, Nat.reduceDiv, Nat.reduceMod, Nat.reduceBEq, reduceCtorEq, Int.toNat_natCast, Int.reduceToNat, Option.some.injEq, Nat.le_refl, List.take_length]
    · skip
      simp only [push_cast, ↓reduceIte, Nat.reduceEqDiff, Nat.reduceLT, Nat.reduceLeDiff, Nat.reduceAdd, Nat.reduceMul, Nat.reduceSub, Nat.reduceDiv, Nat.reduceMod, Nat.reduceBEq, reduceCtorEq, Int.toNat_natCast, Int.reduceToNat, Option.some.injEq, Nat.le_refl, List.take_length, getD_map hi, strR]
      refine ⟨⟨by omega, by omega⟩, ?_⟩
      rw [wrap64 (by omega) (by omega)]
      refine cnd_dec (fun hne => by omega) (fun _ => ?_)
      simp only [push_cast, ↓reduceIte, Nat.reduceEqDiff, Nat.reduceLT, Nat.reduceLeDiff, Nat.reduceAdd, Nat.reduceMul, Nat.reduceSub, Nat.reduceDiv, Nat.reduceMod, Nat.reduceBEq, reduceCtorEq, Int.toNat_natCast, Int.reduceToNat, Option.some.injEq, Nat.le_refl, List.take_length]
      refine ⟨i + 1, ?_, by omega, by omega⟩
      rw [wrap64 (by omega) (by omega), hs]
      simp [Int.sub_sub, Int.add_assoc]
  · have hi : i = xs.length := by omega
    subst hi
    simp only [push_cast, ↓reduceIte, Nat.reduceEqDiff, Nat.reduceLT, Nat.reduceLeDiff, Nat.reduceAdd, Nat.reduceMul, Nat.reduceSub, Nat.reduceDiv, Nat.reduceMod, Nat.reduceBEq, reduceCtorEq, Int.toNat_natCast, Int.reduceToNat, Option.some.injEq, Nat.le_refl, List.take_length]
    simp [Int.sub_sub]

noncomputable def c_laws_szToken : ACode := (.seq (.reg false [⟨none, .box 2 (.t 0), []⟩, ⟨none, .tk 4 (.k (.i .i64 0)), []⟩] [1, 2, 10002]) (.seq (.reg false [⟨none, .p 5 (.fa (.t 2) 0 5), []⟩, ⟨none, .p 6 (.ld (.t 5) 0 1 false), []⟩, ⟨none, .p 7 (.mv (.t 1)), []⟩, ⟨none, .call (some 8) 24 [.rd (.t 6), .rd (.t 7)], []⟩, ⟨none, .asg 1 (.t 8), []⟩] [1]) (.seq (.seq (.reg false [⟨none, .p 9 (.mv (.t 1)), []⟩, ⟨none, .p 10 (.bin .lss (.t 9) (.k (.i .i64 0))), []⟩] [1, 10]) (.cond (.t 10) (.seq (.reg false [⟨none, .tk 4 (.k (.i .i64 (-1))), []⟩] [4]) .ret) .skip)) (.seq (.reg false [⟨none, .p 11 (.mv (.t 1)), []⟩, ⟨none, .tk 4 (.t 11), []⟩] [4]) .ret))))
theorem code_laws_szToken : ∃ c, Tryz.f140.body = some c ∧ cfit PP 12 c c_laws_szToken = true := by
  refine ⟨_, (rfl : Tryz.f140.body = some _), ?_⟩
  kernel_rfl
theorem t_szToken {G : Glob} (a : XToken) (n : Int) (h1 : (a.ms : Int) ≤ n) (h2 : n ≤ 1048576) : FnD PP G 140 [.val true a.vw, .val false [.ow (.lit (.int .i64 n))]] [] []
    [.v false [.ow (.lit (.int .i64 (n - a.ms)))]] [] [] := by
  obtain ⟨cc, hb, hcf⟩ := code_laws_szToken
  refine fn_ok (fn := Tryz.f140) (specs := [.t 4]) (by kernel_rfl) hb (by show (12:Nat) ≤ 10000; omega) hcf (by kernel_rfl) (by show (2:Nat) ≤ 12; omega) (by simp) (by simp) rfl rfl (by simp) rfl ?_
  simp only [c_laws_szToken]
  simp only [XToken.vw]
  simp only [XToken.ms, Int.natCast_add] at h1 ⊢
  simp only [push_cast, ↓reduceIte, Nat.reduceEqDiff, Nat.reduceLT, Nat.reduceLeDiff, Nat.reduceAdd, Nat.reduceMul, Nat.reduceSub, Nat.reduceDiv, Nat.reduceMod, Nat.reduceBEq, reduceCtorEq, Int.toNat_natCast, Int.reduceToNat, Option.some.injEq, Nat.le_refl, List.take_length]
  have hc := t_szIntS (G := G) a.Wants (n) (by omega) (by omega)
  refine call_ok hc ?_
  clear hc
  simp only [push_cast, ↓reduceIte, Nat.reduceEqDiff, Nat.reduceLT, Nat.reduceLeDiff, Nat.reduceAdd, Nat.reduceMul, Nat.reduceSub, Nat.reduceDiv, Nat.reduceMod, Nat.reduceBEq, reduceCtorEq, Int.toNat_natCast, Int.reduceToNat, Option.some.injEq, Nat.le_refl, List.take_length]
  refine cnd_dec (fun hne => by omega) (fun _ => ?_)
  simp only [push_cast, ↓reduceIte, Nat.reduceEqDiff, Nat.reduceLT, Nat.reduceLeDiff, Nat.reduceAdd, Nat.reduceMul, Nat.reduceSub, Nat.reduceDiv, Nat.reduceMod, Nat.reduceBEq, reduceCtorEq, Int.toNat_natCast, Int.reduceToNat, Option.some.injEq, Nat.le_refl, List.take_length]
  try simp only [show n - ((a.Wants.length : Nat) : Int) = n - (((a.Wants.length : Nat) : Int)) from by omega]

noncomputable def c_laws_szMate : ACode := (.seq (.reg false [⟨none, .box 2 (.t 0), []⟩, ⟨none, .tk 4 (.k (.i .i64 0)), []⟩] [1, 2, 10002]) (.seq (.reg false [⟨none, .p 5 (.fa (.t 2) 0 1), []⟩, ⟨none, .p 6 (.ld (.t 5) 0 2 true), []⟩, ⟨none, .p 7 (.mv (.t 1)), []⟩, ⟨none, .call (some 8) 92 [.rd (.t 6), .rd (.t 7)], []⟩, ⟨none, .asg 1 (.t 8), []⟩] [1, 2, 10002]) (.seq (.seq (.reg false [⟨none, .p 9 (.mv (.t 1)), []⟩, ⟨none, .p 10 (.bin .lss (.t 9) (.k (.i .i64 0))), []⟩] [1, 2, 10, 10002]) (.cond (.t 10) (.seq (.reg false [⟨none, .tk 4 (.k (.i .i64 (-1))), []⟩] [4]) .ret) .skip)) (.seq (.reg false [⟨none, .p 11 (.fa (.t 2) 0 3), []⟩, ⟨none, .p 12 (.ld (.t 11) 0 1 false), []⟩, ⟨none, .p 13 (.mv (.t 1)), []⟩, ⟨none, .call (some 14) 180 [.rd (.t 12), .rd (.t 13)], []⟩, ⟨none, .asg 1 (.t 14), []⟩] [1, 2, 10002]) (.seq (.seq (.reg false [⟨none, .p 15 (.mv (.t 1)), []⟩, ⟨none, .p 16 (.bin .lss (.t 15) (.k (.i .i64 0))), []⟩] [1, 2, 16, 10002]) (.cond (.t 16) (.seq (.reg false [⟨none, .tk 4 (.k (.i .i64 (-1))), []⟩] [4]) .ret) .skip)) (.seq (.reg false [⟨none, .p 17 (.fa (.t 2) 0 4), []⟩, ⟨none, .p 18 (.ld (.t 17) 0 1 false), []⟩, ⟨none, .p 19 (.mv (.t 1)), []⟩, ⟨none, .call (some 20) 24 [.rd (.t 18), .rd (.t 19)], []⟩, ⟨none, .asg 1 (.t 20), []⟩] [1, 2, 10002]) (.seq (.seq (.reg false [⟨none, .p 21 (.mv (.t 1)), []⟩, ⟨none, .p 22 (.bin .lss (.t 21) (.k (.i .i64 0))), []⟩] [1, 2, 22, 10002]) (.cond (.t 22) (.seq (.reg false [⟨none, .tk 4 (.k (.i .i64 (-1))), []⟩] [4]) .ret) .skip)) (.seq (.reg false [⟨none, .p 23 (.fa (.t 2) 0 5), []⟩, ⟨none, .p 24 (.ld (.t 23) 0 1 false), []⟩, ⟨none, .p 25 (.mv (.t 1)), []⟩, ⟨none, .call (some 26) 98 [.rd (.t 24), .rd (.t 25)], []⟩, ⟨none, .asg 1 (.t 26), []⟩] [1, 2, 10002]) (.seq (.seq (.reg false [⟨none, .p 27 (.mv (.t 1)), []⟩, ⟨none, .p 28 (.bin .lss (.t 27) (.k (.i .i64 0))), []⟩] [1, 2, 28, 10002]) (.cond (.t 28) (.seq (.reg false [⟨none, .tk 4 (.k (.i .i64 (-1))), []⟩] [4]) .ret) .skip)) (.seq (.reg false [⟨none, .p 29 (.fa (.t 2) 0 10), []⟩, ⟨none, .p 30 (.ld (.t 29) 0 6 true), []⟩, ⟨none, .p 31 (.mv (.t 1)), []⟩, ⟨none, .call (some 32) 140 [.rd (.t 30), .rd (.t 31)], []⟩, ⟨none, .asg 1 (.t 32), []⟩] [1]) (.seq (.seq (.reg false [⟨none, .p 33 (.mv (.t 1)), []⟩, ⟨none, .p 34 (.bin .lss (.t 33) (.k (.i .i64 0))), []⟩] [1, 34]) (.cond (.t 34) (.seq (.reg false [⟨none, .tk 4 (.k (.i .i64 (-1))), []⟩] [4]) .ret) .skip)) (.seq (.reg false [⟨none, .p 35 (.mv (.t 1)), []⟩, ⟨none, .tk 4 (.t 35), []⟩] [4]) .ret))))))))))))
theorem code_laws_szMate : ∃ c, Tryz.f137.body = some c ∧ cfit PP 36 c c_laws_szMate = true := by
  refine ⟨_, (rfl : Tryz.f137.body = some _), ?_⟩
  kernel_rfl
theorem t_szMate {G : Glob} (a : XMate) (n : Int) (h1 : (a.ms : Int) ≤ n) (h2 : n ≤ 1048576) : FnD PP G 137 [.val true a.vw, .val false [.ow (.lit (.int .i64 n))]] [] []
    [.v false [.ow (.lit (.int .i64 (n - a.ms)))]] [] [] := by
  obtain ⟨cc, hb, hcf⟩ := code_laws_szMate
  refine fn_ok (fn := Tryz.f137) (specs := [.t 4]) (by kernel_rfl) hb (by show (36:Nat) ≤ 10000; omega) hcf (by kernel_rfl) (by show (2:Nat) ≤ 36; omega) (by simp) (by simp) rfl rfl (by simp) rfl ?_
  simp only [c_laws_szMate]
  simp only [XMate.vw]
  simp only [XMate.ms, Int.natCast_add] at h1 ⊢
  simp only [push_cast, ↓reduceIte, Nat.reduceEqDiff, Nat.reduceLT, Nat.reduceLeDiff, Nat.reduceAdd, Nat.reduceMul, Nat.reduceSub, Nat.reduceDiv, Nat.reduceMod, Nat.reduceBEq, reduceCtorEq, Int.toNat_natCast, Int.reduceToNat, Option.some.injEq, Nat.le_refl, List.take_length]
  have hc := t_szRing (G := G) a.Ring (n) (by omega) (by omega)
  simp only [XRing.vw] at hc
  refine call_ok hc ?_
  clear hc
  simp only [push_cast, ↓reduceIte, Nat.reduceEqDiff, Nat.reduceLT, Nat.reduceLeDiff, Nat.reduceAdd, Nat.reduceMul, Nat.reduceSub, Nat.reduceDiv, Nat.reduceMod, Nat.reduceBEq, reduceCtorEq, Int.toNat_natCast, Int.reduceToNat, Option.some.injEq, Nat.le_refl, List.take_length]
  refine cnd_dec (fun hne => by omega) (fun _ => ?_)
  simp only [push_cast, ↓reduceIte, Nat.reduceEqDiff, Nat.reduceLT, Nat.reduceLeDiff, Nat.reduceAdd, Nat.reduceMul, Nat.reduceSub, Nat.reduceDiv, Nat.reduceMod, Nat.reduceBEq, reduceCtorEq, Int.toNat_natCast, Int.reduceToNat, Option.some.injEq, Nat.le_refl, List.take_length]
  have hc := t_szItemS (G := G) a.Items (n - ((a.Ring.ms : Nat) : Int)) (by omega) (by omega)
  refine call_ok hc ?_
  clear hc
  simp only [push_cast, ↓reduceIte, Nat.reduceEqDiff, Nat.reduceLT, Nat.reduceLeDiff, Nat.reduceAdd, Nat.reduceMul, Nat.reduceSub, Nat.reduceDiv, Nat.reduceMod, Nat.reduceBEq, reduceCtorEq, Int.toNat_natCast, Int.reduceToNat, Option.some.injEq, Nat.le_refl, List.take_length]
  refine cnd_dec (fun hne => by omega) (fun _ => ?_)
  simp only [push_cast, ↓reduceIte, Nat.reduceEqDiff, Nat.reduceLT, Nat.reduceLeDiff, Nat.reduceAdd, Nat.reduceMul, Nat.reduceSub, Nat.reduceDiv, Nat.reduceMod, Nat.reduceBEq, reduceCtorEq, Int.toNat_natCast, Int.reduceToNat, Option.some.injEq, Nat.le_refl, List.take_length]
  have hc := t_szIntS (G := G) a.Level (n - ((a.Ring.ms : Nat) : Int) - ((msL XItem.ms a.Items : Nat) : Int)) (by omega) (by omega)
  refine call_ok hc ?_
  clear hc
  simp only [push_cast, ↓reduceIte, Nat.reduceEqDiff, Nat.reduceLT, Nat.reduceLeDiff, Nat.reduceAdd, Nat.reduceMul, Nat.reduceSub, Nat.reduceDiv, Nat.reduceMod, Nat.reduceBEq, reduceCtorEq, Int.toNat_natCast, Int.reduceToNat, Option.some.injEq, Nat.le_refl, List.take_length]
  refine cnd_dec (fun hne => by omega) (fun _ => ?_)
  simp only [push_cast, ↓reduceIte, Nat.reduceEqDiff, Nat.reduceLT, Nat.reduceLeDiff, Nat.reduceAdd, Nat.reduceMul, Nat.reduceSub, Nat.reduceDiv, Nat.reduceMod, Nat.reduceBEq, reduceCtorEq, Int.toNat_natCast, Int.reduceToNat, Option.some.injEq, Nat.le_refl, List.take_length]
  have hc := t_szStringS (G := G) a.Texts (n - ((a.Ring.ms : Nat) : Int) - ((msL XItem.ms a.Items : Nat) : Int) - ((a.Level.length : Nat) : Int)) (by omega) (by omega)
  refine call_ok hc ?_
  clear hc
  simp only [push_cast, ↓reduceIte, Nat.reduceEqDiff, Nat.reduceLT, Nat.reduceLeDiff, Nat.reduceAdd, Nat.reduceMul, Nat.reduceSub, Nat.reduceDiv, Nat.reduceMod, Nat.reduceBEq, reduceCtorEq, Int.toNat_natCast, Int.reduceToNat, Option.some.injEq, Nat.le_refl, List.take_length]
  refine cnd_dec (fun hne => by omega) (fun _ => ?_)
  simp only [push_cast, ↓reduceIte, Nat.reduceEqDiff, Nat.reduceLT, Nat.reduceLeDiff, Nat.reduceAdd, Nat.reduceMul, Nat.reduceSub, Nat.reduceDiv, Nat.reduceMod, Nat.reduceBEq, reduceCtorEq, Int.toNat_natCast, Int.reduceToNat, Option.some.injEq, Nat.le_refl, List.take_length]
  have hc := t_szToken (G := G) a.Last (n - ((a.Ring.ms : Nat) : Int) - ((msL XItem.ms a.Items : Nat) : Int) - ((a.Level.length : Nat) : Int) - ((msL ByteArray.size a.Texts : Nat) : Int)) (by omega) (by omega)
  simp only [XToken.vw] at hc
  refine call_ok hc ?_
  clear hc
  simp only [push_cast, ↓reduceIte, Nat.reduceEqDiff, Nat.reduceLT, Nat.reduceLeDiff, Nat.reduceAdd, Nat.reduceMul, Nat.reduceSub, Nat.reduceDiv, Nat.reduceMod, Nat.reduceBEq, reduceCtorEq, Int.toNat_natCast, Int.reduceToNat, Option.some.injEq, Nat.le_refl, List.take_length]
  refine cnd_dec (fun hne => by omega) (fun _ => ?_)
  simp only [push_cast, ↓reduceIte, Nat.reduceEqDiff, Nat.reduceLT, Nat.reduceLeDiff, Nat.reduceAdd, Nat.reduceMul, Nat.reduceSub, Nat.reduceDiv, Nat.reduceMod, Nat.reduceBEq, reduceCtorEq, Int.toNat_natCast, Int.reduceToNat, Option.some.injEq, Nat.le_refl, List.take_length]
  try simp only [show n - ((a.Ring.ms : Nat) : Int) - ((msL XItem.ms a.Items : Nat) : Int) - ((a.Level.length : Nat) : Int) - ((msL ByteArray.size a.Texts : Nat) : Int) - ((a.Last.ms : Nat) : Int) = n - (((a.Ring.ms : Nat) : Int) + ((msL XItem.ms a.Items : Nat) : Int) + ((a.Level.length : Nat) : Int) + ((msL ByteArray.size a.Texts : Nat) : Int) + ((a.Last.ms : Nat) : Int)) from by omega]

noncomputable def c_laws_szBundle : ACode := (.seq (.reg false [⟨none, .box 2 (.t 0), []⟩, ⟨none, .tk 4 (.k (.i .i64 0)), []⟩] [1, 2, 10002]) (.seq (.reg false [⟨none, .p 5 (.fa (.t 2) 0 3), []⟩, ⟨none, .p 6 (.ld (.t 5) 0 1 false), []⟩, ⟨none, .p 7 (.mv (.t 1)), []⟩, ⟨none, .call (some 8) 180 [.rd (.t 6), .rd (.t 7)], []⟩, ⟨none, .asg 1 (.t 8), []⟩] [1]) (.seq (.seq (.reg false [⟨none, .p 9 (.mv (.t 1)), []⟩, ⟨none, .p 10 (.bin .lss (.t 9) (.k (.i .i64 0))), []⟩] [1, 10]) (.cond (.t 10) (.seq (.reg false [⟨none, .tk 4 (.k (.i .i64 (-1))), []⟩] [4]) .ret) .skip)) (.seq (.reg false [⟨none, .p 11 (.mv (.t 1)), []⟩, ⟨none, .tk 4 (.t 11), []⟩] [4]) .ret))))
theorem code_laws_szBundle : ∃ c, Tryz.f141.body = some c ∧ cfit PP 12 c c_laws_szBundle = true := by
  refine ⟨_, (rfl : Tryz.f141.body = some _), ?_⟩
  kernel_rfl
theorem t_szBundle {G : Glob} (a : XBundle) (n : Int) (h1 : (a.ms : Int) ≤ n) (h2 : n ≤ 1048576) : FnD PP G 141 [.val true a.vw, .val false [.ow (.lit (.int .i64 n))]] [] []
    [.v false [.ow (.lit (.int .i64 (n - a.ms)))]] [] [] := by
  obtain ⟨cc, hb, hcf⟩ := code_laws_szBundle
  refine fn_ok (fn := Tryz.f141) (specs := [.t 4]) (by kernel_rfl) hb (by show (12:Nat) ≤ 10000; omega) hcf (by kernel_rfl) (by show (2:Nat) ≤ 12; omega) (by simp) (by simp) rfl rfl (by simp) rfl ?_
  simp only [c_laws_szBundle]
  simp only [XBundle.vw]
  simp only [XBundle.ms, Int.natCast_add] at h1 ⊢
  simp only [push_cast, ↓reduceIte, Nat.reduceEqDiff, Nat.reduceLT, Nat.reduceLeDiff, Nat.reduceAdd, Nat.reduceMul, Nat.reduceSub, Nat.reduceDiv, Nat.reduceMod, Nat.reduceBEq, reduceCtorEq, Int.toNat_natCast, Int.reduceToNat, Option.some.injEq, Nat.le_refl, List.take_length]
  have hc := t_szItemS (G := G) a.Items (n) (by omega) (by omega)
  refine call_ok hc ?_
  clear hc
  simp only [push_cast, ↓reduceIte, Nat.reduceEqDiff, Nat.reduceLT, Nat.reduceLeDiff, Nat.reduceAdd, Nat.reduceMul, Nat.reduceSub, Nat.reduceDiv, Nat.reduceMod, Nat.reduceBEq, reduceCtorEq, Int.toNat_natCast, Int.reduceToNat, Option.some.injEq, Nat.le_refl, List.take_length]
  refine cnd_dec (fun hne => by omega) (fun _ => ?_)
  simp only [push_cast, ↓reduceIte, Nat.reduceEqDiff, Nat.reduceLT, Nat.reduceLeDiff, Nat.reduceAdd, Nat.reduceMul, Nat.reduceSub, Nat.reduceDiv, Nat.reduceMod, Nat.reduceBEq, reduceCtorEq, Int.toNat_natCast, Int.reduceToNat, Option.some.injEq, Nat.le_refl, List.take_length]
  try simp only [show n - ((msL XItem.ms a.Items : Nat) : Int) = n - (((msL XItem.ms a.Items : Nat) : Int)) from by omega]

noncomputable def c_laws_szBundleS : ACode := (.seq (.reg false [⟨none, .tk 4 (.k (.i .i64 0)), []⟩] [0, 1]) (.seq (.reg false [⟨none, .p 6 (.mv (.t 1)), []⟩, ⟨none, .p 7 (.mv (.t 0)), []⟩, ⟨none, .p 8 (.len false (.t 7)), []⟩, ⟨none, .p 9 (.bin .sub (.t 6) (.t 8)), []⟩, ⟨none, .asg 1 (.t 9), []⟩] [0, 1]) (.seq (.seq (.reg false [⟨none, .p 10 (.mv (.t 1)), []⟩, ⟨none, .p 11 (.bin .lss (.t 10) (.k (.i .i64 0))), []⟩] [0, 1, 11]) (.cond (.t 11) (.seq (.reg false [⟨none, .tk 4 (.k (.i .i64 (-1))), []⟩] [4]) .ret) .skip)) (.seq (.seq (.reg false [⟨none, .asg 5 (.k (.i .i64 0)), []⟩] [0, 1, 5]) (.block 0 (.loop [0, 1, 5] (.seq (.seq (.reg false [⟨none, .p 12 (.mv (.t 5)), []⟩, ⟨none, .p 13 (.mv (.t 0)), []⟩, ⟨none, .p 14 (.len false (.t 13)), []⟩, ⟨none, .p 15 (.bin .lss (.t 12) (.t 14)), []⟩] [0, 1, 5, 15]) (.cond (.t 15) .skip (.exit 0 [1]))) (.seq (.block 1 (.seq (.reg false [⟨none, .p 18 (.mv (.t 0)), []⟩, ⟨none, .p 19 (.mv (.t 5)), []⟩, ⟨none, .p 20 (.ia (.t 18) (.t 19) 4), []⟩, ⟨none, .p 21 (.ld (.t 20) 0 4 true), []⟩, ⟨none, .p 22 (.mv (.t 1)), []⟩, ⟨none, .call (some 23) 141 [.rd (.t 21), .rd (.t 22)], []⟩, ⟨none, .asg 1 (.t 23), []⟩] [0, 1, 5]) (.seq (.reg false [⟨none, .p 24 (.mv (.t 1)), []⟩, ⟨none, .p 25 (.bin .lss (.t 24) (.k (.i .i64 0))), []⟩] [0, 1, 5, 25]) (.cond (.t 25) (.seq (.reg false [⟨none, .tk 4 (.k (.i .i64 (-1))), []⟩] [4]) .ret) .skip)))) (.reg false [⟨none, .p 16 (.mv (.t 5)), []⟩, ⟨none, .p 17 (.bin .add (.t 16) (.k (.i .i64 1))), []⟩, ⟨none, .asg 5 (.t 17), []⟩] [0, 1, 5])))))) (.seq (.reg false [⟨none, .p 26 (.mv (.t 1)), []⟩, ⟨none, .tk 4 (.t 26), []⟩] [4]) .ret)))))
theorem code_laws_szBundleS : ∃ c, Tryz.f138.body = some c ∧ cfit PP 27 c c_laws_szBundleS = true := by
  refine ⟨_, (rfl : Tryz.f138.body = some _), ?_⟩
  kernel_rfl
theorem t_szBundleS {G : Glob} (xs : List XBundle) (n : Int) (h1 : ((msL XBundle.ms xs : Nat) : Int) ≤ n) (h2 : n ≤ 1048576) : FnD PP G 138 [.val false [.vw none [] (.sl .ow 4 (xs.map XBundle.row))], .val false [.ow (.lit (.int .i64 n))]] [] []
    [.v false [.ow (.lit (.int .i64 (n - (msL XBundle.ms xs : Nat))))]] [] [] := by
  obtain ⟨cc, hb, hcf⟩ := code_laws_szBundleS
  refine fn_ok (fn := Tryz.f138) (specs := [.t 4]) (by kernel_rfl) hb (by show (27:Nat) ≤ 10000; omega) hcf (by kernel_rfl) (by show (2:Nat) ≤ 27; omega) (by simp) (by simp) rfl rfl (by simp) rfl ?_
  simp only [c_laws_szBundleS]
  simp only [msL, Int.natCast_add] at h1 ⊢
  simp only [push_cast, ↓reduceIte, Nat.reduceEqDiff, Nat.reduceLT, Nat.reduceLeDiff, Nat.reduceAdd, Nat.reduceMul, Nat.reduceSub, Nat.reduceDiv, Nat.reduceMod, Nat.reduceBEq, reduceCtorEq, Int.toNat_natCast, Int.reduceToNat, Option.some.injEq, Nat.le_refl, List.take_length]
  rw [wrap64 (by omega) (by omega)]
  refine cnd_dec (fun hne => by omega) (fun _ => ?_)
  simp only [push_cast, ↓reduceIte, Nat.reduceEqDiff, Nat.reduceLT, Nat.reduceLeDiff, Nat.reduceAdd, Nat.reduceMul, Nat.reduceSub, Nat.reduceDiv, Nat.reduceMod, Nat.reduceBEq, reduceCtorEq, Int.toNat_natCast, Int.reduceToNat, Option.some.injEq, Nat.le_refl, List.take_length]
  refine cwp_loop (fun i : Nat => ⟨[(0, .val false [.vw none [] (.sl .ow 4 (xs.map XBundle.row))]), (1, .val false [.ow (.lit (.int .i64 (n - xs.length - (((xs.take i).map XBundle.ms).sum : Nat))))]), (5, .val false [.ow (.lit (.int .i64 i))])], []⟩)
    (fun i => i ≤ xs.length) (fun i => xs.length - i) 0 rfl (by simp [St.norm, nmL, nmA, nmC, St.get, getL, keyB, nmPl, nmKs]) (by omega) ?_
  intro i hle
  simp only [push_cast, ↓reduceIte, Nat.reduceEqDiff, Nat.reduceLT, Nat.reduceLeDiff, Nat.reduceAdd, Nat.reduceMul, Nat.reduceSub, Nat.reduceDiv, Nat.reduceMod, Nat.reduceBEq, reduceCtorEq, Int.toNat_natCast, Int.reduceToNat, Option.some.injEq, Nat.le_refl, List.take_length]
  refine cnd_dec (fun hlt => ?_) (fun hge => ?_)
  · have hi : i < xs.length := by omega
    have hs := sum_take XBundle.ms xs i hi
    have hs2 := sum_le XBundle.ms xs (i + 1)
    simp only [push_cast, ↓reduceIte, Nat.reduceEqDiff, Nat.reduceLT, Nat.reduceLeDiff, Nat.reduceAdd, Nat.reduceMul, Nat.reduceSub, Nat.reduceDiv, Nat.reduceMod, Nat.reduceBEq, reduceCtorEq, Int.toNat_natCast, Int.reduceToNat, Option.some.injEq, Nat.le_refl, List.take_length]
    · skip
      simp only [push_cast, ↓reduceIte, Nat.reduceEqDiff, Nat.reduceLT, Nat.reduceLeDiff, Nat.reduceAdd, Nat.reduceMul, Nat.reduceSub, Nat.reduceDiv, Nat.reduceMod, Nat.reduceBEq, reduceCtorEq, Int.toNat_natCast, Int.reduceToNat, Option.some.injEq, Nat.le_refl, List.take_length, getD_map hi, XBundle.row]
      refine ⟨⟨by omega, by omega⟩, ?_⟩
      have hc := t_szBundle (G := G) xs[i] (n - xs.length - (((xs.take i).map XBundle.ms).sum : Nat)) (by omega) (by omega)
      simp only [XBundle.vw] at hc
      refine call_ok hc ?_
      clear hc
      simp only [push_cast, ↓reduceIte, Nat.reduceEqDiff, Nat.reduceLT, Nat.reduceLeDiff, Nat.reduceAdd, Nat.reduceMul, Nat.reduceSub, Nat.reduceDiv, Nat.reduceMod, Nat.reduceBEq, reduceCtorEq, Int.toNat_natCast, Int.reduceToNat, Option.some.injEq, Nat.le_refl, List.take_length]
      refine cnd_dec (fun hne => by omega) (fun _ => ?_)
      simp only [push_cast, ↓reduceIte, Nat.reduceEqDiff, Nat.reduceLT, Nat.reduceLeDiff, Nat.reduceAdd, Nat.reduceMul, Nat.reduceSub, Nat.reduceDiv, Nat.reduceMod, Nat.reduceBEq, reduceCtorEq, Int.toNat_natCast, Int.reduceToNat, Option.some.injEq, Nat.le_refl, List.take_length]
      refine ⟨i + 1, ?_, by omega, by omega⟩
      rw [wrap64 (by omega) (by omega), hs]
      simp [Int.sub_sub, Int.add_assoc]
  · have hi : i = xs.length := by omega
    subst hi
    simp only [push_cast, ↓reduceIte, Nat.reduceEqDiff, Nat.reduceLT, Nat.reduceLeDiff, Nat.reduceAdd, Nat.reduceMul, Nat.reduceSub, Nat.reduceDiv, Nat.reduceMod, Nat.reduceBEq, reduceCtorEq, Int.toNat_natCast, Int.reduceToNat, Option.some.injEq, Nat.le_refl, List.take_length]
    simp [Int.sub_sub]

noncomputable def c_laws_szEvent : ACode := (.seq (.reg false [⟨none, .box 2 (.t 0), []⟩, ⟨none, .tk 4 (.k (.i .i64 0)), []⟩] [1, 2, 10002]) (.seq (.reg false [⟨none, .p 5 (.fa (.t 2) 0 1), []⟩, ⟨none, .p 6 (.ld (.t 5) 0 2 true), []⟩, ⟨none, .p 7 (.mv (.t 1)), []⟩, ⟨none, .call (some 8) 92 [.rd (.t 6), .rd (.t 7)], []⟩, ⟨none, .asg 1 (.t 8), []⟩] [1, 2, 10002]) (.seq (.seq (.reg false [⟨none, .p 9 (.mv (.t 1)), []⟩, ⟨none, .p 10 (.bin .lss (.t 9) (.k (.i .i64 0))), []⟩] [1, 2, 10, 10002]) (.cond (.t 10) (.seq (.reg false [⟨none, .tk 4 (.k (.i .i64 (-1))), []⟩] [4]) .ret) .skip)) (.seq (.reg false [⟨none, .p 11 (.fa (.t 2) 0 3), []⟩, ⟨none, .p 12 (.ld (.t 11) 0 4 true), []⟩, ⟨none, .p 13 (.mv (.t 1)), []⟩, ⟨none, .call (some 14) 139 [.rd (.t 12), .rd (.t 13)], []⟩, ⟨none, .asg 1 (.t 14), []⟩] [1, 2, 10002]) (.seq (.seq (.reg false [⟨none, .p 15 (.mv (.t 1)), []⟩, ⟨none, .p 16 (.bin .lss (.t 15) (.k (.i .i64 0))), []⟩] [1, 2, 16, 10002]) (.cond (.t 16) (.seq (.reg false [⟨none, .tk 4 (.k (.i .i64 (-1))), []⟩] [4]) .ret) .skip)) (.seq (.reg false [⟨none, .p 17 (.fa (.t 2) 0 7), []⟩, ⟨none, .p 18 (.ld (.t 17) 0 1 false), []⟩, ⟨none, .p 19 (.mv (.t 1)), []⟩, ⟨none, .call (some 20) 24 [.rd (.t 18), .rd (.t 19)], []⟩, ⟨none, .asg 1 (.t 20), []⟩] [1]) (.seq (.seq (.reg false [⟨none, .p 21 (.mv (.t 1)), []⟩, ⟨none, .p 22 (.bin .lss (.t 21) (.k (.i .i64 0))), []⟩] [1, 22]) (.cond (.t 22) (.seq (.reg false [⟨none, .tk 4 (.k (.i .i64 (-1))), []⟩] [4]) .ret) .skip)) (.seq (.reg false [⟨none, .p 23 (.mv (.t 1)), []⟩, ⟨none, .tk 4 (.t 23), []⟩] [4]) .ret))))))))
theorem code_laws_szEvent : ∃ c, Tryz.f95.body = some c ∧ cfit PP 24 c c_laws_szEvent = true := by
  refine ⟨_, (rfl : Tryz.f95.body = some _), ?_⟩
  kernel_rfl
theorem t_szEvent {G : Glob} (a : XEvent) (n : Int) (h1 : (a.ms : Int) ≤ n) (h2 : n ≤ 1048576) : FnD PP G 95 [.val true a.vw, .val false [.ow (.lit (.int .i64 n))]] [] []
    [.v false [.ow (.lit (.int .i64 (n - a.ms)))]] [] [] := by
  obtain ⟨cc, hb, hcf⟩ := code_laws_szEvent
  refine fn_ok (fn := Tryz.f95) (specs := [.t 4]) (by kernel_rfl) hb (by show (24:Nat) ≤ 10000; omega) hcf (by kernel_rfl) (by show (2:Nat) ≤ 24; omega) (by simp) (by simp) rfl rfl (by simp) rfl ?_
  simp only [c_laws_szEvent]
  simp only [XEvent.vw]
  simp only [XEvent.ms, Int.natCast_add] at h1 ⊢
  simp only [push_cast, ↓reduceIte, Nat.reduceEqDiff, Nat.reduceLT, Nat.reduceLeDiff, Nat.reduceAdd, Nat.reduceMul, Nat.reduceSub, Nat.reduceDiv, Nat.reduceMod, Nat.reduceBEq, reduceCtorEq, Int.toNat_natCast, Int.reduceToNat, Option.some.injEq, Nat.le_refl, List.take_length]
  have hc := t_szRing (G := G) a.Ring (n) (by omega) (by omega)
  simp only [XRing.vw] at hc
  refine call_ok hc ?_
  clear hc
  simp only [push_cast, ↓reduceIte, Nat.reduceEqDiff, Nat.reduceLT, Nat.reduceLeDiff, Nat.reduceAdd, Nat.reduceMul, Nat.reduceSub, Nat.reduceDiv, Nat.reduceMod, Nat.reduceBEq, reduceCtorEq, Int.toNat_natCast, Int.reduceToNat, Option.some.injEq, Nat.le_refl, List.take_length]
  refine cnd_dec (fun hne => by omega) (fun _ => ?_)
  simp only [push_cast, ↓reduceIte, Nat.reduceEqDiff, Nat.reduceLT, Nat.reduceLeDiff, Nat.reduceAdd, Nat.reduceMul, Nat.reduceSub, Nat.reduceDiv, Nat.reduceMod, Nat.reduceBEq, reduceCtorEq, Int.toNat_natCast, Int.reduceToNat, Option.some.injEq, Nat.le_refl, List.take_length]
  have hc := t_szItem (G := G) a.Item (n - ((a.Ring.ms : Nat) : Int)) (by omega) (by omega)
  simp only [XItem.vw] at hc
  refine call_ok hc ?_
  clear hc
  simp only [push_cast, ↓reduceIte, Nat.reduceEqDiff, Nat.reduceLT, Nat.reduceLeDiff, Nat.reduceAdd, Nat.reduceMul, Nat.reduceSub, Nat.reduceDiv, Nat.reduceMod, Nat.reduceBEq, reduceCtorEq, Int.toNat_natCast, Int.reduceToNat, Option.some.injEq, Nat.le_refl, List.take_length]
  refine cnd_dec (fun hne => by omega) (fun _ => ?_)
  simp only [push_cast, ↓reduceIte, Nat.reduceEqDiff, Nat.reduceLT, Nat.reduceLeDiff, Nat.reduceAdd, Nat.reduceMul, Nat.reduceSub, Nat.reduceDiv, Nat.reduceMod, Nat.reduceBEq, reduceCtorEq, Int.toNat_natCast, Int.reduceToNat, Option.some.injEq, Nat.le_refl, List.take_length]
  have hc := t_szIntS (G := G) a.With (n - ((a.Ring.ms : Nat) : Int) - ((a.Item.ms : Nat) : Int)) (by omega) (by omega)
  refine call_ok hc ?_
  clear hc
  simp only [push_cast, ↓reduceIte, Nat.reduceEqDiff, Nat.reduceLT, Nat.reduceLeDiff, Nat.reduceAdd, Nat.reduceMul, Nat.reduceSub, Nat.reduceDiv, Nat.reduceMod, Nat.reduceBEq, reduceCtorEq, Int.toNat_natCast, Int.reduceToNat, Option.some.injEq, Nat.le_refl, List.take_length]
  refine cnd_dec (fun hne => by omega) (fun _ => ?_)
  simp only [push_cast, ↓reduceIte, Nat.reduceEqDiff, Nat.reduceLT, Nat.reduceLeDiff, Nat.reduceAdd, Nat.reduceMul, Nat.reduceSub, Nat.reduceDiv, Nat.reduceMod, Nat.reduceBEq, reduceCtorEq, Int.toNat_natCast, Int.reduceToNat, Option.some.injEq, Nat.le_refl, List.take_length]
  try simp only [show n - ((a.Ring.ms : Nat) : Int) - ((a.Item.ms : Nat) : Int) - ((a.With.length : Nat) : Int) = n - (((a.Ring.ms : Nat) : Int) + ((a.Item.ms : Nat) : Int) + ((a.With.length : Nat) : Int)) from by omega]

noncomputable def c_laws_szEventS : ACode := (.seq (.reg false [⟨none, .tk 4 (.k (.i .i64 0)), []⟩] [0, 1]) (.seq (.reg false [⟨none, .p 6 (.mv (.t 1)), []⟩, ⟨none, .p 7 (.mv (.t 0)), []⟩, ⟨none, .p 8 (.len false (.t 7)), []⟩, ⟨none, .p 9 (.bin .sub (.t 6) (.t 8)), []⟩, ⟨none, .asg 1 (.t 9), []⟩] [0, 1]) (.seq (.seq (.reg false [⟨none, .p 10 (.mv (.t 1)), []⟩, ⟨none, .p 11 (.bin .lss (.t 10) (.k (.i .i64 0))), []⟩] [0, 1, 11]) (.cond (.t 11) (.seq (.reg false [⟨none, .tk 4 (.k (.i .i64 (-1))), []⟩] [4]) .ret) .skip)) (.seq (.seq (.reg false [⟨none, .asg 5 (.k (.i .i64 0)), []⟩] [0, 1, 5]) (.block 0 (.loop [0, 1, 5] (.seq (.seq (.reg false [⟨none, .p 12 (.mv (.t 5)), []⟩, ⟨none, .p 13 (.mv (.t 0)), []⟩, ⟨none, .p 14 (.len false (.t 13)), []⟩, ⟨none, .p 15 (.bin .lss (.t 12) (.t 14)), []⟩] [0, 1, 5, 15]) (.cond (.t 15) .skip (.exit 0 [1]))) (.seq (.block 1 (.seq (.reg false [⟨none, .p 18 (.mv (.t 0)), []⟩, ⟨none, .p 19 (.mv (.t 5)), []⟩, ⟨none, .p 20 (.ia (.t 18) (.t 19) 8), []⟩, ⟨none, .p 21 (.ld (.t 20) 0 8 true), []⟩, ⟨none, .p 22 (.mv (.t 1)), []⟩, ⟨none, .call (some 23) 95 [.rd (.t 21), .rd (.t 22)], []⟩, ⟨none, .asg 1 (.t 23), []⟩] [0, 1, 5]) (.seq (.reg false [⟨none, .p 24 (.mv (.t 1)), []⟩, ⟨none, .p 25 (.bin .lss (.t 24) (.k (.i .i64 0))), []⟩] [0, 1, 5, 25]) (.cond (.t 25) (.seq (.reg false [⟨none, .tk 4 (.k (.i .i64 (-1))), []⟩] [4]) .ret) .skip)))) (.reg false [⟨none, .p 16 (.mv (.t 5)), []⟩, ⟨none, .p 17 (.bin .add (.t 16) (.k (.i .i64 1))), []⟩, ⟨none, .asg 5 (.t 17), []⟩] [0, 1, 5])))))) (.seq (.reg false [⟨none, .p 26 (.mv (.t 1)), []⟩, ⟨none, .tk 4 (.t 26), []⟩] [4]) .ret)))))
theorem code_laws_szEventS : ∃ c, Tryz.f56.body = some c ∧ cfit PP 27 c c_laws_szEventS = true := by
  refine ⟨_, (rfl : Tryz.f56.body = some _), ?_⟩
  kernel_rfl
theorem t_szEventS {G : Glob} (xs : List XEvent) (n : Int) (h1 : ((msL XEvent.ms xs : Nat) : Int) ≤ n) (h2 : n ≤ 1048576) : FnD PP G 56 [.val false [.vw none [] (.sl .ow 8 (xs.map XEvent.row))], .val false [.ow (.lit (.int .i64 n))]] [] []
    [.v false [.ow (.lit (.int .i64 (n - (msL XEvent.ms xs : Nat))))]] [] [] := by
  obtain ⟨cc, hb, hcf⟩ := code_laws_szEventS
  refine fn_ok (fn := Tryz.f56) (specs := [.t 4]) (by kernel_rfl) hb (by show (27:Nat) ≤ 10000; omega) hcf (by kernel_rfl) (by show (2:Nat) ≤ 27; omega) (by simp) (by simp) rfl rfl (by simp) rfl ?_
  simp only [c_laws_szEventS]
  simp only [msL, Int.natCast_add] at h1 ⊢
  simp only [push_cast, ↓reduceIte, Nat.reduceEqDiff, Nat.reduceLT, Nat.reduceLeDiff, Nat.reduceAdd, Nat.reduceMul, Nat.reduceSub, Nat.reduceDiv, Nat.reduceMod, Nat.reduceBEq, reduceCtorEq, Int.toNat_natCast, Int.reduceToNat, Option.some.injEq, Nat.le_refl, List.take_length]
  rw [wrap64 (by omega) (by omega)]
  refine cnd_dec (fun hne => by omega) (fun _ => ?_)
  simp only [push_cast, ↓reduceIte, Nat.reduceEqDiff, Nat.reduceLT, Nat.reduceLeDiff, Nat.reduceAdd, Nat.reduceMul, Nat.reduceSub, Nat.reduceDiv, Nat.reduceMod, Nat.reduceBEq, reduceCtorEq, Int.toNat_natCast, Int.reduceToNat, Option.some.injEq, Nat.le_refl, List.take_length]
  refine cwp_loop (fun i : Nat => ⟨[(0, .val false [.vw none [] (.sl .ow 8 (xs.map XEvent.row))]), (1, .val false [.ow (.lit (.int .i64 (n - xs.length - (((xs.take i).map XEvent.ms).sum : Nat))))]), (5, .val false [.ow (.lit (.int .i64 i))])], []⟩)
    (fun i => i ≤ xs.length) (fun i => xs.length - i) 0 rfl (by simp [St.norm, nmL, nmA, nmC, St.get, getL, keyB, nmPl, nmKs]) (by omega) ?_
  intro i hle
  simp only [push_cast, ↓reduceIte, Nat.reduceEqDiff, Nat.reduceLT, Nat.reduceLeDiff, Nat.reduceAdd, Nat.reduceMul, Nat.reduceSub, Nat.reduceDiv, Nat.reduceMod, Nat.reduceBEq, reduceCtorEq, Int.toNat_natCast, Int.reduceToNat, Option.some.injEq, Nat.le_refl, List.take_length]
  refine cnd_dec (fun hlt => ?_) (fun hge => ?_)
  · have hi : i < xs.length := by omega
    have hs := sum_take XEvent.ms xs i hi
    have hs2 := sum_le XEvent.ms xs (i + 1)
    simp only [push_cast, ↓reduceIte, Nat.reduceEqDiff, Nat.reduceLT, Nat.reduceLeDiff, Nat.reduceAdd, Nat.reduceMul, Nat.reduceSub, Nat.reduceDiv, Nat.reduceMod, Nat.reduceBEq, reduceCtorEq, Int.toNat_natCast, Int.reduceToNat, Option.some.injEq, Nat.le_refl, List.take_length]
    · skip
      simp only [push_cast, ↓reduceIte, Nat.reduceEqDiff, Nat.reduceLT, Nat.reduceLeDiff, Nat.reduceAdd, Nat.reduceMul, Nat.reduceSub, Nat.reduceDiv, Nat.reduceMod, Nat.reduceBEq, reduceCtorEq, Int.toNat_natCast, Int.reduceToNat, Option.some.injEq, Nat.le_refl, List.take_length, getD_map hi, XEvent.row]
      refine ⟨⟨by omega, by omega⟩, ?_⟩
      have hc := t_szEvent (G := G) xs[i] (n - xs.length - (((xs.take i).map XEvent.ms).sum : Nat)) (by omega) (by omega)
      simp only [XEvent.vw] at hc
      refine call_ok hc ?_
      clear hc
      simp only [push_cast, ↓reduceIte, Nat.reduceEqDiff, Nat.reduceLT, Nat.reduceLeDiff, Nat.reduceAdd, Nat.reduceMul, Nat.reduceSub, Nat.reduceDiv, Nat.reduceMod, Nat.reduceBEq, reduceCtorEq, Int.toNat_natCast, Int.reduceToNat, Option.some.injEq, Nat.le_refl, List.take_length]
      refine cnd_dec (fun hne => by omega) (fun _ => ?_)
      simp only [push_cast, ↓reduceIte, Nat.reduceEqDiff, Nat.reduceLT, Nat.reduceLeDiff, Nat.reduceAdd, Nat.reduceMul, Nat.reduceSub, Nat.reduceDiv, Nat.reduceMod, Nat.reduceBEq, reduceCtorEq, Int.toNat_natCast, Int.reduceToNat, Option.some.injEq, Nat.le_refl, List.take_length]
      refine ⟨i + 1, ?_, by omega, by omega⟩
      rw [wrap64 (by omega) (by omega), hs]
      simp [Int.sub_sub, Int.add_assoc]
  · have hi : i = xs.length := by omega
    subst hi
    simp only [push_cast, ↓reduceIte, Nat.reduceEqDiff, Nat.reduceLT, Nat.reduceLeDiff, Nat.reduceAdd, Nat.reduceMul, Nat.reduceSub, Nat.reduceDiv, Nat.reduceMod, Nat.reduceBEq, reduceCtorEq, Int.toNat_natCast, Int.reduceToNat, Option.some.injEq, Nat.le_refl, List.take_length]
    simp [Int.sub_sub]

noncomputable def c_laws_szDaemon : ACode := (.seq (.reg false [⟨none, .box 2 (.t 0), []⟩, ⟨none, .tk 4 (.k (.i .i64 0)), []⟩] [1, 2, 10002]) (.seq (.reg false [⟨none, .p 5 (.fa (.t 2) 0 2), []⟩, ⟨none, .p 6 (.ld (.t 5) 0 16 true), []⟩, ⟨none, .p 7 (.mv (.t 1)), []⟩, ⟨none, .call (some 8) 137 [.rd (.t 6), .rd (.t 7)], []⟩, ⟨none, .asg 1 (.t 8), []⟩] [1, 2, 10002]) (.seq (.seq (.reg false [⟨none, .p 9 (.mv (.t 1)), []⟩, ⟨none, .p 10 (.bin .lss (.t 9) (.k (.i .i64 0))), []⟩] [1, 2, 10, 10002]) (.cond (.t 10) (.seq (.reg false [⟨none, .tk 4 (.k (.i .i64 (-1))), []⟩] [4]) .ret) .skip)) (.seq (.reg false [⟨none, .p 11 (.fa (.t 2) 0 20), []⟩, ⟨none, .p 12 (.ld (.t 11) 0 2 true), []⟩, ⟨none, .p 13 (.mv (.t 1)), []⟩, ⟨none, .call (some 14) 92 [.rd (.t 12), .rd (.t 13)], []⟩, ⟨none, .asg 1 (.t 14), []⟩] [1, 2, 10002]) (.seq (.seq (.reg false [⟨none, .p 15 (.mv (.t 1)), []⟩, ⟨none, .p 16 (.bin .lss (.t 15) (.k (.i .i64 0))), []⟩] [1, 2, 16, 10002]) (.cond (.t 16) (.seq (.reg false [⟨none, .tk 4 (.k (.i .i64 (-1))), []⟩] [4]) .ret) .skip)) (.seq (.reg false [⟨none, .p 17 (.fa (.t 2) 0 22), []⟩, ⟨none, .p 18 (.ld (.t 17) 0 1 false), []⟩, ⟨none, .p 19 (.mv (.t 1)), []⟩, ⟨none, .call (some 20) 138 [.rd (.t 18), .rd (.t 19)], []⟩, ⟨none, .asg 1 (.t 20), []⟩] [1, 2, 10002]) (.seq (.seq (.reg false [⟨none, .p 21 (.mv (.t 1)), []⟩, ⟨none, .p 22 (.bin .lss (.t 21) (.k (.i .i64 0))), []⟩] [1, 2, 22, 10002]) (.cond (.t 22) (.seq (.reg false [⟨none, .tk 4 (.k (.i .i64 (-1))), []⟩] [4]) .ret) .skip)) (.seq (.reg false [⟨none, .p 23 (.fa (.t 2) 0 23), []⟩, ⟨none, .p 24 (.ld (.t 23) 0 1 false), []⟩, ⟨none, .p 25 (.mv (.t 1)), []⟩, ⟨none, .call (some 26) 56 [.rd (.t 24), .rd (.t 25)], []⟩, ⟨none, .asg 1 (.t 26), []⟩] [1]) (.seq (.seq (.reg false [⟨none, .p 27 (.mv (.t 1)), []⟩, ⟨none, .p 28 (.bin .lss (.t 27) (.k (.i .i64 0))), []⟩] [1, 28]) (.cond (.t 28) (.seq (.reg false [⟨none, .tk 4 (.k (.i .i64 (-1))), []⟩] [4]) .ret) .skip)) (.seq (.reg false [⟨none, .p 29 (.mv (.t 1)), []⟩, ⟨none, .tk 4 (.t 29), []⟩] [4]) .ret))))))))))
theorem code_laws_szDaemon : ∃ c, Tryz.f93.body = some c ∧ cfit PP 30 c c_laws_szDaemon = true := by
  refine ⟨_, (rfl : Tryz.f93.body = some _), ?_⟩
  kernel_rfl
theorem t_szDaemon {G : Glob} (a : XDaemon) (n : Int) (h1 : (a.ms : Int) ≤ n) (h2 : n ≤ 1048576) : FnD PP G 93 [.val true a.vw, .val false [.ow (.lit (.int .i64 n))]] [] []
    [.v false [.ow (.lit (.int .i64 (n - a.ms)))]] [] [] := by
  obtain ⟨cc, hb, hcf⟩ := code_laws_szDaemon
  refine fn_ok (fn := Tryz.f93) (specs := [.t 4]) (by kernel_rfl) hb (by show (30:Nat) ≤ 10000; omega) hcf (by kernel_rfl) (by show (2:Nat) ≤ 30; omega) (by simp) (by simp) rfl rfl (by simp) rfl ?_
  simp only [c_laws_szDaemon]
  simp only [XDaemon.vw]
  simp only [XDaemon.ms, Int.natCast_add] at h1 ⊢
  simp only [push_cast, ↓reduceIte, Nat.reduceEqDiff, Nat.reduceLT, Nat.reduceLeDiff, Nat.reduceAdd, Nat.reduceMul, Nat.reduceSub, Nat.reduceDiv, Nat.reduceMod, Nat.reduceBEq, reduceCtorEq, Int.toNat_natCast, Int.reduceToNat, Option.some.injEq, Nat.le_refl, List.take_length]
  have hc := t_szMate (G := G) a.Mate (n) (by omega) (by omega)
  simp only [XMate.vw] at hc
  refine call_ok hc ?_
  clear hc
  simp only [push_cast, ↓reduceIte, Nat.reduceEqDiff, Nat.reduceLT, Nat.reduceLeDiff, Nat.reduceAdd, Nat.reduceMul, Nat.reduceSub, Nat.reduceDiv, Nat.reduceMod, Nat.reduceBEq, reduceCtorEq, Int.toNat_natCast, Int.reduceToNat, Option.some.injEq, Nat.le_refl, List.take_length]
  refine cnd_dec (fun hne => by omega) (fun _ => ?_)
  simp only [push_cast, ↓reduceIte, Nat.reduceEqDiff, Nat.reduceLT, Nat.reduceLeDiff, Nat.reduceAdd, Nat.reduceMul, Nat.reduceSub, Nat.reduceDiv, Nat.reduceMod, Nat.reduceBEq, reduceCtorEq, Int.toNat_natCast, Int.reduceToNat, Option.some.injEq, Nat.le_refl, List.take_length]
  have hc := t_szRing (G := G) a.Joining (n - ((a.Mate.ms : Nat) : Int)) (by omega) (by omega)
  simp only [XRing.vw] at hc
  refine call_ok hc ?_
  clear hc
  simp only [push_cast, ↓reduceIte, Nat.reduceEqDiff, Nat.reduceLT, Nat.reduceLeDiff, Nat.reduceAdd, Nat.reduceMul, Nat.reduceSub, Nat.reduceDiv, Nat.reduceMod, Nat.reduceBEq, reduceCtorEq, Int.toNat_natCast, Int.reduceToNat, Option.some.injEq, Nat.le_refl, List.take_length]
  refine cnd_dec (fun hne => by omega) (fun _ => ?_)
  simp only [push_cast, ↓reduceIte, Nat.reduceEqDiff, Nat.reduceLT, Nat.reduceLeDiff, Nat.reduceAdd, Nat.reduceMul, Nat.reduceSub, Nat.reduceDiv, Nat.reduceMod, Nat.reduceBEq, reduceCtorEq, Int.toNat_natCast, Int.reduceToNat, Option.some.injEq, Nat.le_refl, List.take_length]
  have hc := t_szBundleS (G := G) a.Bundles (n - ((a.Mate.ms : Nat) : Int) - ((a.Joining.ms : Nat) : Int)) (by omega) (by omega)
  refine call_ok hc ?_
  clear hc
  simp only [push_cast, ↓reduceIte, Nat.reduceEqDiff, Nat.reduceLT, Nat.reduceLeDiff, Nat.reduceAdd, Nat.reduceMul, Nat.reduceSub, Nat.reduceDiv, Nat.reduceMod, Nat.reduceBEq, reduceCtorEq, Int.toNat_natCast, Int.reduceToNat, Option.some.injEq, Nat.le_refl, List.take_length]
  refine cnd_dec (fun hne => by omega) (fun _ => ?_)
  simp only [push_cast, ↓reduceIte, Nat.reduceEqDiff, Nat.reduceLT, Nat.reduceLeDiff, Nat.reduceAdd, Nat.reduceMul, Nat.reduceSub, Nat.reduceDiv, Nat.reduceMod, Nat.reduceBEq, reduceCtorEq, Int.toNat_natCast, Int.reduceToNat, Option.some.injEq, Nat.le_refl, List.take_length]
  have hc := t_szEventS (G := G) a.Log (n - ((a.Mate.ms : Nat) : Int) - ((a.Joining.ms : Nat) : Int) - ((msL XBundle.ms a.Bundles : Nat) : Int)) (by omega) (by omega)
  refine call_ok hc ?_
  clear hc
  simp only [push_cast, ↓reduceIte, Nat.reduceEqDiff, Nat.reduceLT, Nat.reduceLeDiff, Nat.reduceAdd, Nat.reduceMul, Nat.reduceSub, Nat.reduceDiv, Nat.reduceMod, Nat.reduceBEq, reduceCtorEq, Int.toNat_natCast, Int.reduceToNat, Option.some.injEq, Nat.le_refl, List.take_length]
  refine cnd_dec (fun hne => by omega) (fun _ => ?_)
  simp only [push_cast, ↓reduceIte, Nat.reduceEqDiff, Nat.reduceLT, Nat.reduceLeDiff, Nat.reduceAdd, Nat.reduceMul, Nat.reduceSub, Nat.reduceDiv, Nat.reduceMod, Nat.reduceBEq, reduceCtorEq, Int.toNat_natCast, Int.reduceToNat, Option.some.injEq, Nat.le_refl, List.take_length]
  try simp only [show n - ((a.Mate.ms : Nat) : Int) - ((a.Joining.ms : Nat) : Int) - ((msL XBundle.ms a.Bundles : Nat) : Int) - ((msL XEvent.ms a.Log : Nat) : Int) = n - (((a.Mate.ms : Nat) : Int) + ((a.Joining.ms : Nat) : Int) + ((msL XBundle.ms a.Bundles : Nat) : Int) + ((msL XEvent.ms a.Log : Nat) : Int)) from by omega]

noncomputable def c_laws_szDaemonS : ACode := (.seq (.reg false [⟨none, .tk 4 (.k (.i .i64 0)), []⟩] [0, 1]) (.seq (.reg false [⟨none, .p 6 (.mv (.t 1)), []⟩, ⟨none, .p 7 (.mv (.t 0)), []⟩, ⟨none, .p 8 (.len false (.t 7)), []⟩, ⟨none, .p 9 (.bin .sub (.t 6) (.t 8)), []⟩, ⟨none, .asg 1 (.t 9), []⟩] [0, 1]) (.seq (.seq (.reg false [⟨none, .p 10 (.mv (.t 1)), []⟩, ⟨none, .p 11 (.bin .lss (.t 10) (.k (.i .i64 0))), []⟩] [0, 1, 11]) (.cond (.t 11) (.seq (.reg false [⟨none, .tk 4 (.k (.i .i64 (-1))), []⟩] [4]) .ret) .skip)) (.seq (.seq (.reg false [⟨none, .asg 5 (.k (.i .i64 0)), []⟩] [0, 1, 5]) (.block 0 (.loop [0, 1, 5] (.seq (.seq (.reg false [⟨none, .p 12 (.mv (.t 5)), []⟩, ⟨none, .p 13 (.mv (.t 0)), []⟩, ⟨none, .p 14 (.len false (.t 13)), []⟩, ⟨none, .p 15 (.bin .lss (.t 12) (.t 14)), []⟩] [0, 1, 5, 15]) (.cond (.t 15) .skip (.exit 0 [1]))) (.seq (.block 1 (.seq (.reg false [⟨none, .p 18 (.mv (.t 0)), []⟩, ⟨none, .p 19 (.mv (.t 5)), []⟩, ⟨none, .p 20 (.ia (.t 18) (.t 19) 24), []⟩, ⟨none, .p 21 (.ld (.t 20) 0 24 true), []⟩, ⟨none, .p 22 (.mv (.t 1)), []⟩, ⟨none, .call (some 23) 93 [.rd (.t 21), .rd (.t 22)], []⟩, ⟨none, .asg 1 (.t 23), []⟩] [0, 1, 5]) (.seq (.reg false [⟨none, .p 24 (.mv (.t 1)), []⟩, ⟨none, .p 25 (.bin .lss (.t 24) (.k (.i .i64 0))), []⟩] [0, 1, 5, 25]) (.cond (.t 25) (.seq (.reg false [⟨none, .tk 4 (.k (.i .i64 (-1))), []⟩] [4]) .ret) .skip)))) (.reg false [⟨none, .p 16 (.mv (.t 5)), []⟩, ⟨none, .p 17 (.bin .add (.t 16) (.k (.i .i64 1))), []⟩, ⟨none, .asg 5 (.t 17), []⟩] [0, 1, 5])))))) (.seq (.reg false [⟨none, .p 26 (.mv (.t 1)), []⟩, ⟨none, .tk 4 (.t 26), []⟩] [4]) .ret)))))
theorem code_laws_szDaemonS : ∃ c, Tryz.f54.body = some c ∧ cfit PP 27 c c_laws_szDaemonS = true := by
  refine ⟨_, (rfl : Tryz.f54.body = some _), ?_⟩
  kernel_rfl
theorem t_szDaemonS {G : Glob} (xs : List XDaemon) (n : Int) (h1 : ((msL XDaemon.ms xs : Nat) : Int) ≤ n) (h2 : n ≤ 1048576) : FnD PP G 54 [.val false [.vw none [] (.sl .ow 24 (xs.map XDaemon.row))], .val false [.ow (.lit (.int .i64 n))]] [] []
    [.v false [.ow (.lit (.int .i64 (n - (msL XDaemon.ms xs : Nat))))]] [] [] := by
  obtain ⟨cc, hb, hcf⟩ := code_laws_szDaemonS
  refine fn_ok (fn := Tryz.f54) (specs := [.t 4]) (by kernel_rfl) hb (by show (27:Nat) ≤ 10000; omega) hcf (by kernel_rfl) (by show (2:Nat) ≤ 27; omega) (by simp) (by simp) rfl rfl (by simp) rfl ?_
  simp only [c_laws_szDaemonS]
  simp only [msL, Int.natCast_add] at h1 ⊢
  simp only [push_cast, ↓reduceIte, Nat.reduceEqDiff, Nat.reduceLT, Nat.reduceLeDiff, Nat.reduceAdd, Nat.reduceMul, Nat.reduceSub, Nat.reduceDiv, Nat.reduceMod, Nat.reduceBEq, reduceCtorEq, Int.toNat_natCast, Int.reduceToNat, Option.some.injEq, Nat.le_refl, List.take_length]
  rw [wrap64 (by omega) (by omega)]
  refine cnd_dec (fun hne => by omega) (fun _ => ?_)
  simp only [push_cast, ↓reduceIte, Nat.reduceEqDiff, Nat.reduceLT, Nat.reduceLeDiff, Nat.reduceAdd, Nat.reduceMul, Nat.reduceSub, Nat.reduceDiv, Nat.reduceMod, Nat.reduceBEq, reduceCtorEq, Int.toNat_natCast, Int.reduceToNat, Option.some.injEq, Nat.le_refl, List.take_length]
  refine cwp_loop (fun i : Nat => ⟨[(0, .val false [.vw none [] (.sl .ow 24 (xs.map XDaemon.row))]), (1, .val false [.ow (.lit (.int .i64 (n - xs.length - (((xs.take i).map XDaemon.ms).sum : Nat))))]), (5, .val false [.ow (.lit (.int .i64 i))])], []⟩)
    (fun i => i ≤ xs.length) (fun i => xs.length - i) 0 rfl (by simp [St.norm, nmL, nmA, nmC, St.get, getL, keyB, nmPl, nmKs]) (by omega) ?_
  intro i hle
  simp only [push_cast, ↓reduceIte, Nat.reduceEqDiff, Nat.reduceLT, Nat.reduceLeDiff, Nat.reduceAdd, Nat.reduceMul, Nat.reduceSub, Nat.reduceDiv, Nat.reduceMod, Nat.reduceBEq, reduceCtorEq, Int.toNat_natCast, Int.reduceToNat, Option.some.injEq, Nat.le_refl, List.take_length]
  refine cnd_dec (fun hlt => ?_) (fun hge => ?_)
  · have hi : i < xs.length := by omega
    have hs := sum_take XDaemon.ms xs i hi
    have hs2 := sum_le XDaemon.ms xs (i + 1)
    simp only [push_cast, ↓reduceIte, Nat.reduceEqDiff, Nat.reduceLT, Nat.reduceLeDiff, Nat.reduceAdd, Nat.reduceMul, Nat.reduceSub, Nat.reduceDiv, Nat.reduceMod, Nat.reduceBEq, reduceCtorEq, Int.toNat_natCast, Int.reduceToNat, Option.some.injEq, Nat.le_refl, List.take_length]
    · skip
      simp only [push_cast, ↓reduceIte, Nat.reduceEqDiff, Nat.reduceLT, Nat.reduceLeDiff, Nat.reduceAdd, Nat.reduceMul, Nat.reduceSub, Nat.reduceDiv, Nat.reduceMod, Nat.reduceBEq, reduceCtorEq, Int.toNat_natCast, Int.reduceToNat, Option.some.injEq, Nat.le_refl, List.take_length, getD_map hi, XDaemon.row]
      refine ⟨⟨by omega, by omega⟩, ?_⟩
      have hc := t_szDaemon (G := G) xs[i] (n - xs.length - (((xs.take i).map XDaemon.ms).sum : Nat)) (by omega) (by omega)
      simp only [XDaemon.vw] at hc
      refine call_ok hc ?_
      clear hc
      simp only [push_cast, ↓reduceIte, Nat.reduceEqDiff, Nat.reduceLT, Nat.reduceLeDiff, Nat.reduceAdd, Nat.reduceMul, Nat.reduceSub, Nat.reduceDiv, Nat.reduceMod, Nat.reduceBEq, reduceCtorEq, Int.toNat_natCast, Int.reduceToNat, Option.some.injEq, Nat.le_refl, List.take_length]
      refine cnd_dec (fun hne => by omega) (fun _ => ?_)
      simp only [push_cast, ↓reduceIte, Nat.reduceEqDiff, Nat.reduceLT, Nat.reduceLeDiff, Nat.reduceAdd, Nat.reduceMul, Nat.reduceSub, Nat.reduceDiv, Nat.reduceMod, Nat.reduceBEq, reduceCtorEq, Int.toNat_natCast, Int.reduceToNat, Option.some.injEq, Nat.le_refl, List.take_length]
      refine ⟨i + 1, ?_, by omega, by omega⟩
      rw [wrap64 (by omega) (by omega), hs]
      simp [Int.sub_sub, Int.add_assoc]
  · have hi : i = xs.length := by omega
    subst hi
    simp only [push_cast, ↓reduceIte, Nat.reduceEqDiff, Nat.reduceLT, Nat.reduceLeDiff, Nat.reduceAdd, Nat.reduceMul, Nat.reduceSub, Nat.reduceDiv, Nat.reduceMod, Nat.reduceBEq, reduceCtorEq, Int.toNat_natCast, Int.reduceToNat, Option.some.injEq, Nat.le_refl, List.take_length]
    simp [Int.sub_sub]

noncomputable def c_laws_szLetter : ACode := (.seq (.reg false [⟨none, .box 2 (.t 0), []⟩, ⟨none, .tk 4 (.k (.i .i64 0)), []⟩] [1, 2, 10002]) (.seq (.reg false [⟨none, .p 5 (.fa (.t 2) 0 3), []⟩, ⟨none, .p 6 (.ld (.t 5) 0 4 true), []⟩, ⟨none, .p 7 (.mv (.t 1)), []⟩, ⟨none, .call (some 8) 139 [.rd (.t 6), .rd (.t 7)], []⟩, ⟨none, .asg 1 (.t 8), []⟩] [1, 2, 10002]) (.seq (.seq (.reg false [⟨none, .p 9 (.mv (.t 1)), []⟩, ⟨none, .p 10 (.bin .lss (.t 9) (.k (.i .i64 0))), []⟩] [1, 2, 10, 10002]) (.cond (.t 10) (.seq (.reg false [⟨none, .tk 4 (.k (.i .i64 (-1))), []⟩] [4]) .ret) .skip)) (.seq (.reg false [⟨none, .p 11 (.fa (.t 2) 0 7), []⟩, ⟨none, .p 12 (.ld (.t 11) 0 6 true), []⟩, ⟨none, .p 13 (.mv (.t 1)), []⟩, ⟨none, .call (some 14) 140 [.rd (.t 12), .rd (.t 13)], []⟩, ⟨none, .asg 1 (.t 14), []⟩] [1, 2, 10002]) (.seq (.seq (.reg false [⟨none, .p 15 (.mv (.t 1)), []⟩, ⟨none, .p 16 (.bin .lss (.t 15) (.k (.i .i64 0))), []⟩] [1, 2, 16, 10002]) (.cond (.t 16) (.seq (.reg false [⟨none, .tk 4 (.k (.i .i64 (-1))), []⟩] [4]) .ret) .skip)) (.seq (.reg false [⟨none, .p 17 (.fa (.t 2) 0 13), []⟩, ⟨none, .p 18 (.ld (.t 17) 0 4 true), []⟩, ⟨none, .p 19 (.mv (.t 1)), []⟩, ⟨none, .call (some 20) 141 [.rd (.t 18), .rd (.t 19)], []⟩, ⟨none, .asg 1 (.t 20), []⟩] [1]) (.seq (.seq (.reg false [⟨none, .p 21 (.mv (.t 1)), []⟩, ⟨none, .p 22 (.bin .lss (.t 21) (.k (.i .i64 0))), []⟩] [1, 22]) (.cond (.t 22) (.seq (.reg false [⟨none, .tk 4 (.k (.i .i64 (-1))), []⟩] [4]) .ret) .skip)) (.seq (.reg false [⟨none, .p 23 (.mv (.t 1)), []⟩, ⟨none, .tk 4 (.t 23), []⟩] [4]) .ret))))))))
theorem code_laws_szLetter : ∃ c, Tryz.f94.body = some c ∧ cfit PP 24 c c_laws_szLetter = true := by
  refine ⟨_, (rfl : Tryz.f94.body = some _), ?_⟩
  kernel_rfl
theorem t_szLetter {G : Glob} (a : XLetter) (n : Int) (h1 : (a.ms : Int) ≤ n) (h2 : n ≤ 1048576) : FnD PP G 94 [.val true a.vw, .val false [.ow (.lit (.int .i64 n))]] [] []
    [.v false [.ow (.lit (.int .i64 (n - a.ms)))]] [] [] := by
  obtain ⟨cc, hb, hcf⟩ := code_laws_szLetter
  refine fn_ok (fn := Tryz.f94) (specs := [.t 4]) (by kernel_rfl) hb (by show (24:Nat) ≤ 10000; omega) hcf (by kernel_rfl) (by show (2:Nat) ≤ 24; omega) (by simp) (by simp) rfl rfl (by simp) rfl ?_
  simp only [c_laws_szLetter]
  simp only [XLetter.vw]
  simp only [XLetter.ms, Int.natCast_add] at h1 ⊢
  simp only [push_cast, ↓reduceIte, Nat.reduceEqDiff, Nat.reduceLT, Nat.reduceLeDiff, Nat.reduceAdd, Nat.reduceMul, Nat.reduceSub, Nat.reduceDiv, Nat.reduceMod, Nat.reduceBEq, reduceCtorEq, Int.toNat_natCast, Int.reduceToNat, Option.some.injEq, Nat.le_refl, List.take_length]
  have hc := t_szItem (G := G) a.Item (n) (by omega) (by omega)
  simp only [XItem.vw] at hc
  refine call_ok hc ?_
  clear hc
  simp only [push_cast, ↓reduceIte, Nat.reduceEqDiff, Nat.reduceLT, Nat.reduceLeDiff, Nat.reduceAdd, Nat.reduceMul, Nat.reduceSub, Nat.reduceDiv, Nat.reduceMod, Nat.reduceBEq, reduceCtorEq, Int.toNat_natCast, Int.reduceToNat, Option.some.injEq, Nat.le_refl, List.take_length]
  refine cnd_dec (fun hne => by omega) (fun _ => ?_)
  simp only [push_cast, ↓reduceIte, Nat.reduceEqDiff, Nat.reduceLT, Nat.reduceLeDiff, Nat.reduceAdd, Nat.reduceMul, Nat.reduceSub, Nat.reduceDiv, Nat.reduceMod, Nat.reduceBEq, reduceCtorEq, Int.toNat_natCast, Int.reduceToNat, Option.some.injEq, Nat.le_refl, List.take_length]
  have hc := t_szToken (G := G) a.Token (n - ((a.Item.ms : Nat) : Int)) (by omega) (by omega)
  simp only [XToken.vw] at hc
  refine call_ok hc ?_
  clear hc
  simp only [push_cast, ↓reduceIte, Nat.reduceEqDiff, Nat.reduceLT, Nat.reduceLeDiff, Nat.reduceAdd, Nat.reduceMul, Nat.reduceSub, Nat.reduceDiv, Nat.reduceMod, Nat.reduceBEq, reduceCtorEq, Int.toNat_natCast, Int.reduceToNat, Option.some.injEq, Nat.le_refl, List.take_length]
  refine cnd_dec (fun hne => by omega) (fun _ => ?_)
  simp only [push_cast, ↓reduceIte, Nat.reduceEqDiff, Nat.reduceLT, Nat.reduceLeDiff, Nat.reduceAdd, Nat.reduceMul, Nat.reduceSub, Nat.reduceDiv, Nat.reduceMod, Nat.reduceBEq, reduceCtorEq, Int.toNat_natCast, Int.reduceToNat, Option.some.injEq, Nat.le_refl, List.take_length]
  have hc := t_szBundle (G := G) a.Bundle (n - ((a.Item.ms : Nat) : Int) - ((a.Token.ms : Nat) : Int)) (by omega) (by omega)
  simp only [XBundle.vw] at hc
  refine call_ok hc ?_
  clear hc
  simp only [push_cast, ↓reduceIte, Nat.reduceEqDiff, Nat.reduceLT, Nat.reduceLeDiff, Nat.reduceAdd, Nat.reduceMul, Nat.reduceSub, Nat.reduceDiv, Nat.reduceMod, Nat.reduceBEq, reduceCtorEq, Int.toNat_natCast, Int.reduceToNat, Option.some.injEq, Nat.le_refl, List.take_length]
  refine cnd_dec (fun hne => by omega) (fun _ => ?_)
  simp only [push_cast, ↓reduceIte, Nat.reduceEqDiff, Nat.reduceLT, Nat.reduceLeDiff, Nat.reduceAdd, Nat.reduceMul, Nat.reduceSub, Nat.reduceDiv, Nat.reduceMod, Nat.reduceBEq, reduceCtorEq, Int.toNat_natCast, Int.reduceToNat, Option.some.injEq, Nat.le_refl, List.take_length]
  try simp only [show n - ((a.Item.ms : Nat) : Int) - ((a.Token.ms : Nat) : Int) - ((a.Bundle.ms : Nat) : Int) = n - (((a.Item.ms : Nat) : Int) + ((a.Token.ms : Nat) : Int) + ((a.Bundle.ms : Nat) : Int)) from by omega]

noncomputable def c_laws_szLetterS : ACode := (.seq (.reg false [⟨none, .tk 4 (.k (.i .i64 0)), []⟩] [0, 1]) (.seq (.reg false [⟨none, .p 6 (.mv (.t 1)), []⟩, ⟨none, .p 7 (.mv (.t 0)), []⟩, ⟨none, .p 8 (.len false (.t 7)), []⟩, ⟨none, .p 9 (.bin .sub (.t 6) (.t 8)), []⟩, ⟨none, .asg 1 (.t 9), []⟩] [0, 1]) (.seq (.seq (.reg false [⟨none, .p 10 (.mv (.t 1)), []⟩, ⟨none, .p 11 (.bin .lss (.t 10) (.k (.i .i64 0))), []⟩] [0, 1, 11]) (.cond (.t 11) (.seq (.reg false [⟨none, .tk 4 (.k (.i .i64 (-1))), []⟩] [4]) .ret) .skip)) (.seq (.seq (.reg false [⟨none, .asg 5 (.k (.i .i64 0)), []⟩] [0, 1, 5]) (.block 0 (.loop [0, 1, 5] (.seq (.seq (.reg false [⟨none, .p 12 (.mv (.t 5)), []⟩, ⟨none, .p 13 (.mv (.t 0)), []⟩, ⟨none, .p 14 (.len false (.t 13)), []⟩, ⟨none, .p 15 (.bin .lss (.t 12) (.t 14)), []⟩] [0, 1, 5, 15]) (.cond (.t 15) .skip (.exit 0 [1]))) (.seq (.block 1 (.seq (.reg false [⟨none, .p 18 (.mv (.t 0)), []⟩, ⟨none, .p 19 (.mv (.t 5)), []⟩, ⟨none, .p 20 (.ia (.t 18) (.t 19) 17), []⟩, ⟨none, .p 21 (.ld (.t 20) 0 17 true), []⟩, ⟨none, .p 22 (.mv (.t 1)), []⟩, ⟨none, .call (some 23) 94 [.rd (.t 21), .rd (.t 22)], []⟩, ⟨none, .asg 1 (.t 23), []⟩] [0, 1, 5]) (.seq (.reg false [⟨none, .p 24 (.mv (.t 1)), []⟩, ⟨none, .p 25 (.bin .lss (.t 24) (.k (.i .i64 0))), []⟩] [0, 1, 5, 25]) (.cond (.t 25) (.seq (.reg false [⟨none, .tk 4 (.k (.i .i64 (-1))), []⟩] [4]) .ret) .skip)))) (.reg false [⟨none, .p 16 (.mv (.t 5)), []⟩, ⟨none, .p 17 (.bin .add (.t 16) (.k (.i .i64 1))), []⟩, ⟨none, .asg 5 (.t 17), []⟩] [0, 1, 5])))))) (.seq (.reg false [⟨none, .p 26 (.mv (.t 1)), []⟩, ⟨none, .tk 4 (.t 26), []⟩] [4]) .ret)))))
theorem code_laws_szLetterS : ∃ c, Tryz.f55.body = some c ∧ cfit PP 27 c c_laws_szLetterS = true := by
  refine ⟨_, (rfl : Tryz.f55.body = some _), ?_⟩
  kernel_rfl
theorem t_szLetterS {G : Glob} (xs : List XLetter) (n : Int) (h1 : ((msL XLetter.ms xs : Nat) : Int) ≤ n) (h2 : n ≤ 1048576) : FnD PP G 55 [.val false [.vw none [] (.sl .ow 17 (xs.map XLetter.row))], .val false [.ow (.lit (.int .i64 n))]] [] []
    [.v false [.ow (.lit (.int .i64 (n - (msL XLetter.ms xs : Nat))))]] [] [] := by
  obtain ⟨cc, hb, hcf⟩ := code_laws_szLetterS
  refine fn_ok (fn := Tryz.f55) (specs := [.t 4]) (by kernel_rfl) hb (by show (27:Nat) ≤ 10000; omega) hcf (by kernel_rfl) (by show (2:Nat) ≤ 27; omega) (by simp) (by simp) rfl rfl (by simp) rfl ?_
  simp only [c_laws_szLetterS]
  simp only [msL, Int.natCast_add] at h1 ⊢
  simp only [push_cast, ↓reduceIte, Nat.reduceEqDiff, Nat.reduceLT, Nat.reduceLeDiff, Nat.reduceAdd, Nat.reduceMul, Nat.reduceSub, Nat.reduceDiv, Nat.reduceMod, Nat.reduceBEq, reduceCtorEq, Int.toNat_natCast, Int.reduceToNat, Option.some.injEq, Nat.le_refl, List.take_length]
  rw [wrap64 (by omega) (by omega)]
  refine cnd_dec (fun hne => by omega) (fun _ => ?_)
  simp only [push_cast, ↓reduceIte, Nat.reduceEqDiff, Nat.reduceLT, Nat.reduceLeDiff, Nat.reduceAdd, Nat.reduceMul, Nat.reduceSub, Nat.reduceDiv, Nat.reduceMod, Nat.reduceBEq, reduceCtorEq, Int.toNat_natCast, Int.reduceToNat, Option.some.injEq, Nat.le_refl, List.take_length]
  refine cwp_loop (fun i : Nat => ⟨[(0, .val false [.vw none [] (.sl .ow 17 (xs.map XLetter.row))]), (1, .val false [.ow (.lit (.int .i64 (n - xs.length - (((xs.take i).map XLetter.ms).sum : Nat))))]), (5, .val false [.ow (.lit (.int .i64 i))])], []⟩)
    (fun i => i ≤ xs.length) (fun i => xs.length - i) 0 rfl (by simp [St.norm, nmL, nmA, nmC, St.get, getL, keyB, nmPl, nmKs]) (by omega) ?_
  intro i hle
  simp only [push_cast, ↓reduceIte, Nat.reduceEqDiff, Nat.reduceLT, Nat.reduceLeDiff, Nat.reduceAdd, Nat.reduceMul, Nat.reduceSub, Nat.reduceDiv, Nat.reduceMod, Nat.reduceBEq, reduceCtorEq, Int.toNat_natCast, Int.reduceToNat, Option.some.injEq, Nat.le_refl, List.take_length]
  refine cnd_dec (fun hlt => ?_) (fun hge => ?_)
  · have hi : i < xs.length := by omega
    have hs := sum_take XLetter.ms xs i hi
    have hs2 := sum_le XLetter.ms xs (i + 1)
    simp only [push_cast, ↓reduceIte, Nat.reduceEqDiff, Nat.reduceLT, Nat.reduceLeDiff, Nat.reduceAdd, Nat.reduceMul, Nat.reduceSub, Nat.reduceDiv, Nat.reduceMod, Nat.reduceBEq, reduceCtorEq, Int.toNat_natCast, Int.reduceToNat, Option.some.injEq, Nat.le_refl, List.take_length]
    · skip
      simp only [push_cast, ↓reduceIte, Nat.reduceEqDiff, Nat.reduceLT, Nat.reduceLeDiff, Nat.reduceAdd, Nat.reduceMul, Nat.reduceSub, Nat.reduceDiv, Nat.reduceMod, Nat.reduceBEq, reduceCtorEq, Int.toNat_natCast, Int.reduceToNat, Option.some.injEq, Nat.le_refl, List.take_length, getD_map hi, XLetter.row]
      refine ⟨⟨by omega, by omega⟩, ?_⟩
      have hc := t_szLetter (G := G) xs[i] (n - xs.length - (((xs.take i).map XLetter.ms).sum : Nat)) (by omega) (by omega)
      simp only [XLetter.vw] at hc
      refine call_ok hc ?_
      clear hc
      simp only [push_cast, ↓reduceIte, Nat.reduceEqDiff, Nat.reduceLT, Nat.reduceLeDiff, Nat.reduceAdd, Nat.reduceMul, Nat.reduceSub, Nat.reduceDiv, Nat.reduceMod, Nat.reduceBEq, reduceCtorEq, Int.toNat_natCast, Int.reduceToNat, Option.some.injEq, Nat.le_refl, List.take_length]
      refine cnd_dec (fun hne => by omega) (fun _ => ?_)
      simp only [push_cast, ↓reduceIte, Nat.reduceEqDiff, Nat.reduceLT, Nat.reduceLeDiff, Nat.reduceAdd, Nat.reduceMul, Nat.reduceSub, Nat.reduceDiv, Nat.reduceMod, Nat.reduceBEq, reduceCtorEq, Int.toNat_natCast, Int.reduceToNat, Option.some.injEq, Nat.le_refl, List.take_length]
      refine ⟨i + 1, ?_, by omega, by omega⟩
      rw [wrap64 (by omega) (by omega), hs]
      simp [Int.sub_sub, Int.add_assoc]
  · have hi : i = xs.length := by omega
    subst hi
    simp only [push_cast, ↓reduceIte, Nat.reduceEqDiff, Nat.reduceLT, Nat.reduceLeDiff, Nat.reduceAdd, Nat.reduceMul, Nat.reduceSub, Nat.reduceDiv, Nat.reduceMod, Nat.reduceBEq, reduceCtorEq, Int.toNat_natCast, Int.reduceToNat, Option.some.injEq, Nat.le_refl, List.take_length]
    simp [Int.sub_sub]

noncomputable def c_laws_szWorld : ACode := (.seq (.reg false [⟨none, .box 2 (.t 0), []⟩, ⟨none, .tk 4 (.k (.i .i64 0)), []⟩] [1, 2, 10002]) (.seq (.reg false [⟨none, .p 5 (.fa (.t 2) 0 0), []⟩, ⟨none, .p 6 (.ld (.t 5) 0 1 false), []⟩, ⟨none, .p 7 (.mv (.t 1)), []⟩, ⟨none, .call (some 8) 53 [.rd (.t 6), .rd (.t 7)], []⟩, ⟨none, .asg 1 (.t 8), []⟩] [1, 2, 10002]) (.seq (.seq (.reg false [⟨none, .p 9 (.mv (.t 1)), []⟩, ⟨none, .p 10 (.bin .lss (.t 9) (.k (.i .i64 0))), []⟩] [1, 2, 10, 10002]) (.cond (.t 10) (.seq (.reg false [⟨none, .tk 4 (.k (.i .i64 (-1))), []⟩] [4]) .ret) .skip)) (.seq (.reg false [⟨none, .p 11 (.fa (.t 2) 0 1), []⟩, ⟨none, .p 12 (.ld (.t 11) 0 1 false), []⟩, ⟨none, .p 13 (.mv (.t 1)), []⟩, ⟨none, .call (some 14) 54 [.rd (.t 12), .rd (.t 13)], []⟩, ⟨none, .asg 1 (.t 14), []⟩] [1, 2, 10002]) (.seq (.seq (.reg false [⟨none, .p 15 (.mv (.t 1)), []⟩, ⟨none, .p 16 (.bin .lss (.t 15) (.k (.i .i64 0))), []⟩] [1, 2, 16, 10002]) (.cond (.t 16) (.seq (.reg false [⟨none, .tk 4 (.k (.i .i64 (-1))), []⟩] [4]) .ret) .skip)) (.seq (.reg false [⟨none, .p 17 (.fa (.t 2) 0 2), []⟩, ⟨none, .p 18 (.ld (.t 17) 0 1 false), []⟩, ⟨none, .p 19 (.mv (.t 1)), []⟩, ⟨none, .call (some 20) 55 [.rd (.t 18), .rd (.t 19)], []⟩, ⟨none, .asg 1 (.t 20), []⟩] [1, 2, 10002]) (.seq (.seq (.reg false [⟨none, .p 21 (.mv (.t 1)), []⟩, ⟨none, .p 22 (.bin .lss (.t 21) (.k (.i .i64 0))), []⟩] [1, 2, 22, 10002]) (.cond (.t 22) (.seq (.reg false [⟨none, .tk 4 (.k (.i .i64 (-1))), []⟩] [4]) .ret) .skip)) (.seq (.reg false [⟨none, .p 23 (.fa (.t 2) 0 3), []⟩, ⟨none, .p 24 (.ld (.t 23) 0 1 false), []⟩, ⟨none, .p 25 (.mv (.t 1)), []⟩, ⟨none, .call (some 26) 56 [.rd (.t 24), .rd (.t 25)], []⟩, ⟨none, .asg 1 (.t 26), []⟩] [1]) (.seq (.seq (.reg false [⟨none, .p 27 (.mv (.t 1)), []⟩, ⟨none, .p 28 (.bin .lss (.t 27) (.k (.i .i64 0))), []⟩] [1, 28]) (.cond (.t 28) (.seq (.reg false [⟨none, .tk 4 (.k (.i .i64 (-1))), []⟩] [4]) .ret) .skip)) (.seq (.reg false [⟨none, .p 29 (.mv (.t 1)), []⟩, ⟨none, .tk 4 (.t 29), []⟩] [4]) .ret))))))))))
theorem code_laws_szWorld : ∃ c, Tryz.f21.body = some c ∧ cfit PP 30 c c_laws_szWorld = true := by
  refine ⟨_, (rfl : Tryz.f21.body = some _), ?_⟩
  kernel_rfl
theorem t_szWorld {G : Glob} (a : XWorld) (n : Int) (h1 : (a.ms : Int) ≤ n) (h2 : n ≤ 1048576) : FnD PP G 21 [.val true a.vw, .val false [.ow (.lit (.int .i64 n))]] [] []
    [.v false [.ow (.lit (.int .i64 (n - a.ms)))]] [] [] := by
  obtain ⟨cc, hb, hcf⟩ := code_laws_szWorld
  refine fn_ok (fn := Tryz.f21) (specs := [.t 4]) (by kernel_rfl) hb (by show (30:Nat) ≤ 10000; omega) hcf (by kernel_rfl) (by show (2:Nat) ≤ 30; omega) (by simp) (by simp) rfl rfl (by simp) rfl ?_
  simp only [c_laws_szWorld]
  simp only [XWorld.vw]
  simp only [XWorld.ms, Int.natCast_add] at h1 ⊢
  simp only [push_cast, ↓reduceIte, Nat.reduceEqDiff, Nat.reduceLT, Nat.reduceLeDiff, Nat.reduceAdd, Nat.reduceMul, Nat.reduceSub, Nat.reduceDiv, Nat.reduceMod, Nat.reduceBEq, reduceCtorEq, Int.toNat_natCast, Int.reduceToNat, Option.some.injEq, Nat.le_refl, List.take_length]
  have hc := t_szRingS (G := G) a.Rings (n) (by omega) (by omega)
  refine call_ok hc ?_
  clear hc
  simp only [push_cast, ↓reduceIte, Nat.reduceEqDiff, Nat.reduceLT, Nat.reduceLeDiff, Nat.reduceAdd, Nat.reduceMul, Nat.reduceSub, Nat.reduceDiv, Nat.reduceMod, Nat.reduceBEq, reduceCtorEq, Int.toNat_natCast, Int.reduceToNat, Option.some.injEq, Nat.le_refl, List.take_length]
  refine cnd_dec (fun hne => by omega) (fun _ => ?_)
  simp only [push_cast, ↓reduceIte, Nat.reduceEqDiff, Nat.reduceLT, Nat.reduceLeDiff, Nat.reduceAdd, Nat.reduceMul, Nat.reduceSub, Nat.reduceDiv, Nat.reduceMod, Nat.reduceBEq, reduceCtorEq, Int.toNat_natCast, Int.reduceToNat, Option.some.injEq, Nat.le_refl, List.take_length]
  have hc := t_szDaemonS (G := G) a.Daemons (n - ((msL XRing.ms a.Rings : Nat) : Int)) (by omega) (by omega)
  refine call_ok hc ?_
  clear hc
  simp only [push_cast, ↓reduceIte, Nat.reduceEqDiff, Nat.reduceLT, Nat.reduceLeDiff, Nat.reduceAdd, Nat.reduceMul, Nat.reduceSub, Nat.reduceDiv, Nat.reduceMod, Nat.reduceBEq, reduceCtorEq, Int.toNat_natCast, Int.reduceToNat, Option.some.injEq, Nat.le_refl, List.take_length]
  refine cnd_dec (fun hne => by omega) (fun _ => ?_)
  simp only [push_cast, ↓reduceIte, Nat.reduceEqDiff, Nat.reduceLT, Nat.reduceLeDiff, Nat.reduceAdd, Nat.reduceMul, Nat.reduceSub, Nat.reduceDiv, Nat.reduceMod, Nat.reduceBEq, reduceCtorEq, Int.toNat_natCast, Int.reduceToNat, Option.some.injEq, Nat.le_refl, List.take_length]
  have hc := t_szLetterS (G := G) a.Letters (n - ((msL XRing.ms a.Rings : Nat) : Int) - ((msL XDaemon.ms a.Daemons : Nat) : Int)) (by omega) (by omega)
  refine call_ok hc ?_
  clear hc
  simp only [push_cast, ↓reduceIte, Nat.reduceEqDiff, Nat.reduceLT, Nat.reduceLeDiff, Nat.reduceAdd, Nat.reduceMul, Nat.reduceSub, Nat.reduceDiv, Nat.reduceMod, Nat.reduceBEq, reduceCtorEq, Int.toNat_natCast, Int.reduceToNat, Option.some.injEq, Nat.le_refl, List.take_length]
  refine cnd_dec (fun hne => by omega) (fun _ => ?_)
  simp only [push_cast, ↓reduceIte, Nat.reduceEqDiff, Nat.reduceLT, Nat.reduceLeDiff, Nat.reduceAdd, Nat.reduceMul, Nat.reduceSub, Nat.reduceDiv, Nat.reduceMod, Nat.reduceBEq, reduceCtorEq, Int.toNat_natCast, Int.reduceToNat, Option.some.injEq, Nat.le_refl, List.take_length]
  have hc := t_szEventS (G := G) a.Numbered (n - ((msL XRing.ms a.Rings : Nat) : Int) - ((msL XDaemon.ms a.Daemons : Nat) : Int) - ((msL XLetter.ms a.Letters : Nat) : Int)) (by omega) (by omega)
  refine call_ok hc ?_
  clear hc
  simp only [push_cast, ↓reduceIte, Nat.reduceEqDiff, Nat.reduceLT, Nat.reduceLeDiff, Nat.reduceAdd, Nat.reduceMul, Nat.reduceSub, Nat.reduceDiv, Nat.reduceMod, Nat.reduceBEq, reduceCtorEq, Int.toNat_natCast, Int.reduceToNat, Option.some.injEq, Nat.le_refl, List.take_length]
  refine cnd_dec (fun hne => by omega) (fun _ => ?_)
  simp only [push_cast, ↓reduceIte, Nat.reduceEqDiff, Nat.reduceLT, Nat.reduceLeDiff, Nat.reduceAdd, Nat.reduceMul, Nat.reduceSub, Nat.reduceDiv, Nat.reduceMod, Nat.reduceBEq, reduceCtorEq, Int.toNat_natCast, Int.reduceToNat, Option.some.injEq, Nat.le_refl, List.take_length]
  try simp only [show n - ((msL XRing.ms a.Rings : Nat) : Int) - ((msL XDaemon.ms a.Daemons : Nat) : Int) - ((msL XLetter.ms a.Letters : Nat) : Int) - ((msL XEvent.ms a.Numbered : Nat) : Int) = n - (((msL XRing.ms a.Rings : Nat) : Int) + ((msL XDaemon.ms a.Daemons : Nat) : Int) + ((msL XLetter.ms a.Letters : Nat) : Int) + ((msL XEvent.ms a.Numbered : Nat) : Int)) from by omega]

noncomputable def c_laws_szReader : ACode := (.seq (.reg false [⟨none, .box 2 (.t 0), []⟩, ⟨none, .tk 4 (.k (.i .i64 0)), []⟩] [1, 2, 10002]) (.seq (.reg false [⟨none, .p 5 (.mv (.t 1)), []⟩, ⟨none, .p 6 (.fa (.t 2) 0 0), []⟩, ⟨none, .p 7 (.ld (.t 6) 0 1 false), []⟩, ⟨none, .p 8 (.len true (.t 7)), []⟩, ⟨none, .p 9 (.bin .sub (.t 5) (.t 8)), []⟩, ⟨none, .asg 1 (.t 9), []⟩] [1]) (.seq (.seq (.reg false [⟨none, .p 10 (.mv (.t 1)), []⟩, ⟨none, .p 11 (.bin .lss (.t 10) (.k (.i .i64 0))), []⟩] [1, 11]) (.cond (.t 11) (.seq (.reg false [⟨none, .tk 4 (.k (.i .i64 (-1))), []⟩] [4]) .ret) .skip)) (.seq (.reg false [⟨none, .p 12 (.mv (.t 1)), []⟩, ⟨none, .tk 4 (.t 12), []⟩] [4]) .ret))))
theorem code_laws_szReader : ∃ c, Tryz.f142.body = some c ∧ cfit PP 13 c c_laws_szReader = true := by
  refine ⟨_, (rfl : Tryz.f142.body = some _), ?_⟩
  kernel_rfl
theorem t_szReader {G : Glob} (a : XReader) (n : Int) (h1 : (a.ms : Int) ≤ n) (h2 : n ≤ 1048576) : FnD PP G 142 [.val true a.vw, .val false [.ow (.lit (.int .i64 n))]] [] []
    [.v false [.ow (.lit (.int .i64 (n - a.ms)))]] [] [] := by
  obtain ⟨cc, hb, hcf⟩ := code_laws_szReader
  refine fn_ok (fn := Tryz.f142) (specs := [.t 4]) (by kernel_rfl) hb (by show (13:Nat) ≤ 10000; omega) hcf (by kernel_rfl) (by show (2:Nat) ≤ 13; omega) (by simp) (by simp) rfl rfl (by simp) rfl ?_
  simp only [c_laws_szReader]
  simp only [XReader.vw]
  simp only [XReader.ms, Int.natCast_add] at h1 ⊢
  simp only [push_cast, ↓reduceIte, Nat.reduceEqDiff, Nat.reduceLT, Nat.reduceLeDiff, Nat.reduceAdd, Nat.reduceMul, Nat.reduceSub, Nat.reduceDiv, Nat.reduceMod, Nat.reduceBEq, reduceCtorEq, Int.toNat_natCast, Int.reduceToNat, Option.some.injEq, Nat.le_refl, List.take_length]
  rw [wrap64 (by omega) (by omega)]
  refine cnd_dec (fun hne => by omega) (fun _ => ?_)
  simp only [push_cast, ↓reduceIte, Nat.reduceEqDiff, Nat.reduceLT, Nat.reduceLeDiff, Nat.reduceAdd, Nat.reduceMul, Nat.reduceSub, Nat.reduceDiv, Nat.reduceMod, Nat.reduceBEq, reduceCtorEq, Int.toNat_natCast, Int.reduceToNat, Option.some.injEq, Nat.le_refl, List.take_length]
  try simp only [show n - ((a.Rest.size : Nat) : Int) = n - (((a.Rest.size : Nat) : Int)) from by omega]

noncomputable def c_laws_szSession : ACode := (.seq (.reg false [⟨none, .box 2 (.t 0), []⟩, ⟨none, .tk 4 (.k (.i .i64 0)), []⟩] [1, 2, 10002]) (.seq (.reg false [⟨none, .p 5 (.mv (.t 1)), []⟩, ⟨none, .p 6 (.fa (.t 2) 0 1), []⟩, ⟨none, .p 7 (.ld (.t 6) 0 1 false), []⟩, ⟨none, .p 8 (.len true (.t 7)), []⟩, ⟨none, .p 9 (.bin .sub (.t 5) (.t 8)), []⟩, ⟨none, .asg 1 (.t 9), []⟩] [1, 2, 10002]) (.seq (.seq (.reg false [⟨none, .p 10 (.mv (.t 1)), []⟩, ⟨none, .p 11 (.bin .lss (.t 10) (.k (.i .i64 0))), []⟩] [1, 2, 11, 10002]) (.cond (.t 11) (.seq (.reg false [⟨none, .tk 4 (.k (.i .i64 (-1))), []⟩] [4]) .ret) .skip)) (.seq (.reg false [⟨none, .p 12 (.fa (.t 2) 0 2), []⟩, ⟨none, .p 13 (.ld (.t 12) 0 2 true), []⟩, ⟨none, .p 14 (.mv (.t 1)), []⟩, ⟨none, .call (some 15) 142 [.rd (.t 13), .rd (.t 14)], []⟩, ⟨none, .asg 1 (.t 15), []⟩] [1, 2, 10002]) (.seq (.seq (.reg false [⟨none, .p 16 (.mv (.t 1)), []⟩, ⟨none, .p 17 (.bin .lss (.t 16) (.k (.i .i64 0))), []⟩] [1, 2, 17, 10002]) (.cond (.t 17) (.seq (.reg false [⟨none, .tk 4 (.k (.i .i64 (-1))), []⟩] [4]) .ret) .skip)) (.seq (.reg false [⟨none, .p 18 (.fa (.t 2) 0 5), []⟩, ⟨none, .p 19 (.ld (.t 18) 0 1 false), []⟩, ⟨none, .p 20 (.mv (.t 1)), []⟩, ⟨none, .call (some 21) 98 [.rd (.t 19), .rd (.t 20)], []⟩, ⟨none, .asg 1 (.t 21), []⟩] [1]) (.seq (.seq (.reg false [⟨none, .p 22 (.mv (.t 1)), []⟩, ⟨none, .p 23 (.bin .lss (.t 22) (.k (.i .i64 0))), []⟩] [1, 23]) (.cond (.t 23) (.seq (.reg false [⟨none, .tk 4 (.k (.i .i64 (-1))), []⟩] [4]) .ret) .skip)) (.seq (.reg false [⟨none, .p 24 (.mv (.t 1)), []⟩, ⟨none, .tk 4 (.t 24), []⟩] [4]) .ret))))))))
theorem code_laws_szSession : ∃ c, Tryz.f96.body = some c ∧ cfit PP 25 c c_laws_szSession = true := by
  refine ⟨_, (rfl : Tryz.f96.body = some _), ?_⟩
  kernel_rfl
theorem t_szSession {G : Glob} (a : XSession) (n : Int) (h1 : (a.ms : Int) ≤ n) (h2 : n ≤ 1048576) : FnD PP G 96 [.val true a.vw, .val false [.ow (.lit (.int .i64 n))]] [] []
    [.v false [.ow (.lit (.int .i64 (n - a.ms)))]] [] [] := by
  obtain ⟨cc, hb, hcf⟩ := code_laws_szSession
  refine fn_ok (fn := Tryz.f96) (specs := [.t 4]) (by kernel_rfl) hb (by show (25:Nat) ≤ 10000; omega) hcf (by kernel_rfl) (by show (2:Nat) ≤ 25; omega) (by simp) (by simp) rfl rfl (by simp) rfl ?_
  simp only [c_laws_szSession]
  simp only [XSession.vw]
  simp only [XSession.ms, Int.natCast_add] at h1 ⊢
  simp only [push_cast, ↓reduceIte, Nat.reduceEqDiff, Nat.reduceLT, Nat.reduceLeDiff, Nat.reduceAdd, Nat.reduceMul, Nat.reduceSub, Nat.reduceDiv, Nat.reduceMod, Nat.reduceBEq, reduceCtorEq, Int.toNat_natCast, Int.reduceToNat, Option.some.injEq, Nat.le_refl, List.take_length]
  rw [wrap64 (by omega) (by omega)]
  refine cnd_dec (fun hne => by omega) (fun _ => ?_)
  simp only [push_cast, ↓reduceIte, Nat.reduceEqDiff, Nat.reduceLT, Nat.reduceLeDiff, Nat.reduceAdd, Nat.reduceMul, Nat.reduceSub, Nat.reduceDiv, Nat.reduceMod, Nat.reduceBEq, reduceCtorEq, Int.toNat_natCast, Int.reduceToNat, Option.some.injEq, Nat.le_refl, List.take_length]
  have hc := t_szReader (G := G) a.Read (n - ((a.Name.size : Nat) : Int)) (by omega) (by omega)
  simp only [XReader.vw] at hc
  refine call_ok hc ?_
  clear hc
  simp only [push_cast, ↓reduceIte, Nat.reduceEqDiff, Nat.reduceLT, Nat.reduceLeDiff, Nat.reduceAdd, Nat.reduceMul, Nat.reduceSub, Nat.reduceDiv, Nat.reduceMod, Nat.reduceBEq, reduceCtorEq, Int.toNat_natCast, Int.reduceToNat, Option.some.injEq, Nat.le_refl, List.take_length]
  refine cnd_dec (fun hne => by omega) (fun _ => ?_)
  simp only [push_cast, ↓reduceIte, Nat.reduceEqDiff, Nat.reduceLT, Nat.reduceLeDiff, Nat.reduceAdd, Nat.reduceMul, Nat.reduceSub, Nat.reduceDiv, Nat.reduceMod, Nat.reduceBEq, reduceCtorEq, Int.toNat_natCast, Int.reduceToNat, Option.some.injEq, Nat.le_refl, List.take_length]
  have hc := t_szStringS (G := G) a.In (n - ((a.Name.size : Nat) : Int) - ((a.Read.ms : Nat) : Int)) (by omega) (by omega)
  refine call_ok hc ?_
  clear hc
  simp only [push_cast, ↓reduceIte, Nat.reduceEqDiff, Nat.reduceLT, Nat.reduceLeDiff, Nat.reduceAdd, Nat.reduceMul, Nat.reduceSub, Nat.reduceDiv, Nat.reduceMod, Nat.reduceBEq, reduceCtorEq, Int.toNat_natCast, Int.reduceToNat, Option.some.injEq, Nat.le_refl, List.take_length]
  refine cnd_dec (fun hne => by omega) (fun _ => ?_)
  simp only [push_cast, ↓reduceIte, Nat.reduceEqDiff, Nat.reduceLT, Nat.reduceLeDiff, Nat.reduceAdd, Nat.reduceMul, Nat.reduceSub, Nat.reduceDiv, Nat.reduceMod, Nat.reduceBEq, reduceCtorEq, Int.toNat_natCast, Int.reduceToNat, Option.some.injEq, Nat.le_refl, List.take_length]
  try simp only [show n - ((a.Name.size : Nat) : Int) - ((a.Read.ms : Nat) : Int) - ((msL ByteArray.size a.In : Nat) : Int) = n - (((a.Name.size : Nat) : Int) + ((a.Read.ms : Nat) : Int) + ((msL ByteArray.size a.In : Nat) : Int)) from by omega]

noncomputable def c_laws_szBox : ACode := (.seq (.reg false [⟨none, .box 2 (.t 0), []⟩, ⟨none, .tk 4 (.k (.i .i64 0)), []⟩] [1, 2, 10002]) (.seq (.reg false [⟨none, .p 5 (.mv (.t 1)), []⟩, ⟨none, .p 6 (.fa (.t 2) 0 0), []⟩, ⟨none, .p 7 (.ld (.t 6) 0 1 false), []⟩, ⟨none, .p 8 (.len true (.t 7)), []⟩, ⟨none, .p 9 (.bin .sub (.t 5) (.t 8)), []⟩, ⟨none, .asg 1 (.t 9), []⟩] [1, 2, 10002]) (.seq (.seq (.reg false [⟨none, .p 10 (.mv (.t 1)), []⟩, ⟨none, .p 11 (.bin .lss (.t 10) (.k (.i .i64 0))), []⟩] [1, 2, 11, 10002]) (.cond (.t 11) (.seq (.reg false [⟨none, .tk 4 (.k (.i .i64 (-1))), []⟩] [4]) .ret) .skip)) (.seq (.reg false [⟨none, .p 12 (.fa (.t 2) 0 1), []⟩, ⟨none, .p 13 (.ld (.t 12) 0 1 false), []⟩, ⟨none, .p 14 (.mv (.t 1)), []⟩, ⟨none, .call (some 15) 98 [.rd (.t 13), .rd (.t 14)], []⟩, ⟨none, .asg 1 (.t 15), []⟩] [1]) (.seq (.seq (.reg false [⟨none, .p 16 (.mv (.t 1)), []⟩, ⟨none, .p 17 (.bin .lss (.t 16) (.k (.i .i64 0))), []⟩] [1, 17]) (.cond (.t 17) (.seq (.reg false [⟨none, .tk 4 (.k (.i .i64 (-1))), []⟩] [4]) .ret) .skip)) (.seq (.reg false [⟨none, .p 18 (.mv (.t 1)), []⟩, ⟨none, .tk 4 (.t 18), []⟩] [4]) .ret))))))
theorem code_laws_szBox : ∃ c, Tryz.f97.body = some c ∧ cfit PP 19 c c_laws_szBox = true := by
  refine ⟨_, (rfl : Tryz.f97.body = some _), ?_⟩
  kernel_rfl
theorem t_szBox {G : Glob} (a : XBox) (n : Int) (h1 : (a.ms : Int) ≤ n) (h2 : n ≤ 1048576) : FnD PP G 97 [.val true a.vw, .val false [.ow (.lit (.int .i64 n))]] [] []
    [.v false [.ow (.lit (.int .i64 (n - a.ms)))]] [] [] := by
  obtain ⟨cc, hb, hcf⟩ := code_laws_szBox
  refine fn_ok (fn := Tryz.f97) (specs := [.t 4]) (by kernel_rfl) hb (by show (19:Nat) ≤ 10000; omega) hcf (by kernel_rfl) (by show (2:Nat) ≤ 19; omega) (by simp) (by simp) rfl rfl (by simp) rfl ?_
  simp only [c_laws_szBox]
  simp only [XBox.vw]
  simp only [XBox.ms, Int.natCast_add] at h1 ⊢
  simp only [push_cast, ↓reduceIte, Nat.reduceEqDiff, Nat.reduceLT, Nat.reduceLeDiff, Nat.reduceAdd, Nat.reduceMul, Nat.reduceSub, Nat.reduceDiv, Nat.reduceMod, Nat.reduceBEq, reduceCtorEq, Int.toNat_natCast, Int.reduceToNat, Option.some.injEq, Nat.le_refl, List.take_length]
  rw [wrap64 (by omega) (by omega)]
  refine cnd_dec (fun hne => by omega) (fun _ => ?_)
  simp only [push_cast, ↓reduceIte, Nat.reduceEqDiff, Nat.reduceLT, Nat.reduceLeDiff, Nat.reduceAdd, Nat.reduceMul, Nat.reduceSub, Nat.reduceDiv, Nat.reduceMod, Nat.reduceBEq, reduceCtorEq, Int.toNat_natCast, Int.reduceToNat, Option.some.injEq, Nat.le_refl, List.take_length]
  have hc := t_szStringS (G := G) a.Texts (n - ((a.Name.size : Nat) : Int)) (by omega) (by omega)
  refine call_ok hc ?_
  clear hc
  simp only [push_cast, ↓reduceIte, Nat.reduceEqDiff, Nat.reduceLT, Nat.reduceLeDiff, Nat.reduceAdd, Nat.reduceMul, Nat.reduceSub, Nat.reduceDiv, Nat.reduceMod, Nat.reduceBEq, reduceCtorEq, Int.toNat_natCast, Int.reduceToNat, Option.some.injEq, Nat.le_refl, List.take_length]
  refine cnd_dec (fun hne => by omega) (fun _ => ?_)
  simp only [push_cast, ↓reduceIte, Nat.reduceEqDiff, Nat.reduceLT, Nat.reduceLeDiff, Nat.reduceAdd, Nat.reduceMul, Nat.reduceSub, Nat.reduceDiv, Nat.reduceMod, Nat.reduceBEq, reduceCtorEq, Int.toNat_natCast, Int.reduceToNat, Option.some.injEq, Nat.le_refl, List.take_length]
  try simp only [show n - ((a.Name.size : Nat) : Int) - ((msL ByteArray.size a.Texts : Nat) : Int) = n - (((a.Name.size : Nat) : Int) + ((msL ByteArray.size a.Texts : Nat) : Int)) from by omega]

noncomputable def c_laws_szCaller : ACode := (.seq (.reg false [⟨none, .box 2 (.t 0), []⟩, ⟨none, .tk 4 (.k (.i .i64 0)), []⟩] [1, 2, 10002]) (.seq (.reg false [⟨none, .p 5 (.fa (.t 2) 0 0), []⟩, ⟨none, .p 6 (.ld (.t 5) 0 6 true), []⟩, ⟨none, .p 7 (.mv (.t 1)), []⟩, ⟨none, .call (some 8) 96 [.rd (.t 6), .rd (.t 7)], []⟩, ⟨none, .asg 1 (.t 8), []⟩] [1, 2, 10002]) (.seq (.seq (.reg false [⟨none, .p 9 (.mv (.t 1)), []⟩, ⟨none, .p 10 (.bin .lss (.t 9) (.k (.i .i64 0))), []⟩] [1, 2, 10, 10002]) (.cond (.t 10) (.seq (.reg false [⟨none, .tk 4 (.k (.i .i64 (-1))), []⟩] [4]) .ret) .skip)) (.seq (.reg false [⟨none, .p 11 (.fa (.t 2) 0 6), []⟩, ⟨none, .p 12 (.ld (.t 11) 0 3 true), []⟩, ⟨none, .p 13 (.mv (.t 1)), []⟩, ⟨none, .call (some 14) 97 [.rd (.t 12), .rd (.t 13)], []⟩, ⟨none, .asg 1 (.t 14), []⟩] [1, 2, 10002]) (.seq (.seq (.reg false [⟨none, .p 15 (.mv (.t 1)), []⟩, ⟨none, .p 16 (.bin .lss (.t 15) (.k (.i .i64 0))), []⟩] [1, 2, 16, 10002]) (.cond (.t 16) (.seq (.reg false [⟨none, .tk 4 (.k (.i .i64 (-1))), []⟩] [4]) .ret) .skip)) (.seq (.reg false [⟨none, .p 17 (.mv (.t 1)), []⟩, ⟨none, .p 18 (.fa (.t 2) 0 9), []⟩, ⟨none, .p 19 (.ld (.t 18) 0 1 false), []⟩, ⟨none, .p 20 (.len true (.t 19)), []⟩, ⟨none, .p 21 (.bin .sub (.t 17) (.t 20)), []⟩, ⟨none, .asg 1 (.t 21), []⟩] [1, 2, 10002]) (.seq (.seq (.reg false [⟨none, .p 22 (.mv (.t 1)), []⟩, ⟨none, .p 23 (.bin .lss (.t 22) (.k (.i .i64 0))), []⟩] [1, 2, 23, 10002]) (.cond (.t 23) (.seq (.reg false [⟨none, .tk 4 (.k (.i .i64 (-1))), []⟩] [4]) .ret) .skip)) (.seq (.reg false [⟨none, .p 24 (.fa (.t 2) 0 10), []⟩, ⟨none, .p 25 (.ld (.t 24) 0 1 false), []⟩, ⟨none, .p 26 (.mv (.t 1)), []⟩, ⟨none, .call (some 27) 98 [.rd (.t 25), .rd (.t 26)], []⟩, ⟨none, .asg 1 (.t 27), []⟩] [1]) (.seq (.seq (.reg false [⟨none, .p 28 (.mv (.t 1)), []⟩, ⟨none, .p 29 (.bin .lss (.t 28) (.k (.i .i64 0))), []⟩] [1, 29]) (.cond (.t 29) (.seq (.reg false [⟨none, .tk 4 (.k (.i .i64 (-1))), []⟩] [4]) .ret) .skip)) (.seq (.reg false [⟨none, .p 30 (.mv (.t 1)), []⟩, ⟨none, .tk 4 (.t 30), []⟩] [4]) .ret))))))))))
theorem code_laws_szCaller : ∃ c, Tryz.f57.body = some c ∧ cfit PP 31 c c_laws_szCaller = true := by
  refine ⟨_, (rfl : Tryz.f57.body = some _), ?_⟩
  kernel_rfl
theorem t_szCaller {G : Glob} (a : XCaller) (n : Int) (h1 : (a.ms : Int) ≤ n) (h2 : n ≤ 1048576) : FnD PP G 57 [.val true a.vw, .val false [.ow (.lit (.int .i64 n))]] [] []
    [.v false [.ow (.lit (.int .i64 (n - a.ms)))]] [] [] := by
  obtain ⟨cc, hb, hcf⟩ := code_laws_szCaller
  refine fn_ok (fn := Tryz.f57) (specs := [.t 4]) (by kernel_rfl) hb (by show (31:Nat) ≤ 10000; omega) hcf (by kernel_rfl) (by show (2:Nat) ≤ 31; omega) (by simp) (by simp) rfl rfl (by simp) rfl ?_
  simp only [c_laws_szCaller]
  simp only [XCaller.vw]
  simp only [XCaller.ms, Int.natCast_add] at h1 ⊢
  simp only [push_cast, ↓reduceIte, Nat.reduceEqDiff, Nat.reduceLT, Nat.reduceLeDiff, Nat.reduceAdd, Nat.reduceMul, Nat.reduceSub, Nat.reduceDiv, Nat.reduceMod, Nat.reduceBEq, reduceCtorEq, Int.toNat_natCast, Int.reduceToNat, Option.some.injEq, Nat.le_refl, List.take_length]
  have hc := t_szSession (G := G) a.Session (n) (by omega) (by omega)
  simp only [XSession.vw] at hc
  refine call_ok hc ?_
  clear hc
  simp only [push_cast, ↓reduceIte, Nat.reduceEqDiff, Nat.reduceLT, Nat.reduceLeDiff, Nat.reduceAdd, Nat.reduceMul, Nat.reduceSub, Nat.reduceDiv, Nat.reduceMod, Nat.reduceBEq, reduceCtorEq, Int.toNat_natCast, Int.reduceToNat, Option.some.injEq, Nat.le_refl, List.take_length]
  refine cnd_dec (fun hne => by omega) (fun _ => ?_)
  simp only [push_cast, ↓reduceIte, Nat.reduceEqDiff, Nat.reduceLT, Nat.reduceLeDiff, Nat.reduceAdd, Nat.reduceMul, Nat.reduceSub, Nat.reduceDiv, Nat.reduceMod, Nat.reduceBEq, reduceCtorEq, Int.toNat_natCast, Int.reduceToNat, Option.some.injEq, Nat.le_refl, List.take_length]
  have hc := t_szBox (G := G) a.Box (n - ((a.Session.ms : Nat) : Int)) (by omega) (by omega)
  simp only [XBox.vw] at hc
  refine call_ok hc ?_
  clear hc
  simp only [push_cast, ↓reduceIte, Nat.reduceEqDiff, Nat.reduceLT, Nat.reduceLeDiff, Nat.reduceAdd, Nat.reduceMul, Nat.reduceSub, Nat.reduceDiv, Nat.reduceMod, Nat.reduceBEq, reduceCtorEq, Int.toNat_natCast, Int.reduceToNat, Option.some.injEq, Nat.le_refl, List.take_length]
  refine cnd_dec (fun hne => by omega) (fun _ => ?_)
  simp only [push_cast, ↓reduceIte, Nat.reduceEqDiff, Nat.reduceLT, Nat.reduceLeDiff, Nat.reduceAdd, Nat.reduceMul, Nat.reduceSub, Nat.reduceDiv, Nat.reduceMod, Nat.reduceBEq, reduceCtorEq, Int.toNat_natCast, Int.reduceToNat, Option.some.injEq, Nat.le_refl, List.take_length]
  rw [wrap64 (by omega) (by omega)]
  refine cnd_dec (fun hne => by omega) (fun _ => ?_)
  simp only [push_cast, ↓reduceIte, Nat.reduceEqDiff, Nat.reduceLT, Nat.reduceLeDiff, Nat.reduceAdd, Nat.reduceMul, Nat.reduceSub, Nat.reduceDiv, Nat.reduceMod, Nat.reduceBEq, reduceCtorEq, Int.toNat_natCast, Int.reduceToNat, Option.some.injEq, Nat.le_refl, List.take_length]
  have hc := t_szStringS (G := G) a.Got (n - ((a.Session.ms : Nat) : Int) - ((a.Box.ms : Nat) : Int) - ((a.Fault.size : Nat) : Int)) (by omega) (by omega)
  refine call_ok hc ?_
  clear hc
  simp only [push_cast, ↓reduceIte, Nat.reduceEqDiff, Nat.reduceLT, Nat.reduceLeDiff, Nat.reduceAdd, Nat.reduceMul, Nat.reduceSub, Nat.reduceDiv, Nat.reduceMod, Nat.reduceBEq, reduceCtorEq, Int.toNat_natCast, Int.reduceToNat, Option.some.injEq, Nat.le_refl, List.take_length]
  refine cnd_dec (fun hne => by omega) (fun _ => ?_)
  simp only [push_cast, ↓reduceIte, Nat.reduceEqDiff, Nat.reduceLT, Nat.reduceLeDiff, Nat.reduceAdd, Nat.reduceMul, Nat.reduceSub, Nat.reduceDiv, Nat.reduceMod, Nat.reduceBEq, reduceCtorEq, Int.toNat_natCast, Int.reduceToNat, Option.some.injEq, Nat.le_refl, List.take_length]
  try simp only [show n - ((a.Session.ms : Nat) : Int) - ((a.Box.ms : Nat) : Int) - ((a.Fault.size : Nat) : Int) - ((msL ByteArray.size a.Got : Nat) : Int) = n - (((a.Session.ms : Nat) : Int) + ((a.Box.ms : Nat) : Int) + ((a.Fault.size : Nat) : Int) + ((msL ByteArray.size a.Got : Nat) : Int)) from by omega]

noncomputable def c_laws_szCallerS : ACode := (.seq (.reg false [⟨none, .tk 4 (.k (.i .i64 0)), []⟩] [0, 1]) (.seq (.reg false [⟨none, .p 6 (.mv (.t 1)), []⟩, ⟨none, .p 7 (.mv (.t 0)), []⟩, ⟨none, .p 8 (.len false (.t 7)), []⟩, ⟨none, .p 9 (.bin .sub (.t 6) (.t 8)), []⟩, ⟨none, .asg 1 (.t 9), []⟩] [0, 1]) (.seq (.seq (.reg false [⟨none, .p 10 (.mv (.t 1)), []⟩, ⟨none, .p 11 (.bin .lss (.t 10) (.k (.i .i64 0))), []⟩] [0, 1, 11]) (.cond (.t 11) (.seq (.reg false [⟨none, .tk 4 (.k (.i .i64 (-1))), []⟩] [4]) .ret) .skip)) (.seq (.seq (.reg false [⟨none, .asg 5 (.k (.i .i64 0)), []⟩] [0, 1, 5]) (.block 0 (.loop [0, 1, 5] (.seq (.seq (.reg false [⟨none, .p 12 (.mv (.t 5)), []⟩, ⟨none, .p 13 (.mv (.t 0)), []⟩, ⟨none, .p 14 (.len false (.t 13)), []⟩, ⟨none, .p 15 (.bin .lss (.t 12) (.t 14)), []⟩] [0, 1, 5, 15]) (.cond (.t 15) .skip (.exit 0 [1]))) (.seq (.block 1 (.seq (.reg false [⟨none, .p 18 (.mv (.t 0)), []⟩, ⟨none, .p 19 (.mv (.t 5)), []⟩, ⟨none, .p 20 (.ia (.t 18) (.t 19) 11), []⟩, ⟨none, .p 21 (.ld (.t 20) 0 11 true), []⟩, ⟨none, .p 22 (.mv (.t 1)), []⟩, ⟨none, .call (some 23) 57 [.rd (.t 21), .rd (.t 22)], []⟩, ⟨none, .asg 1 (.t 23), []⟩] [0, 1, 5]) (.seq (.reg false [⟨none, .p 24 (.mv (.t 1)), []⟩, ⟨none, .p 25 (.bin .lss (.t 24) (.k (.i .i64 0))), []⟩] [0, 1, 5, 25]) (.cond (.t 25) (.seq (.reg false [⟨none, .tk 4 (.k (.i .i64 (-1))), []⟩] [4]) .ret) .skip)))) (.reg false [⟨none, .p 16 (.mv (.t 5)), []⟩, ⟨none, .p 17 (.bin .add (.t 16) (.k (.i .i64 1))), []⟩, ⟨none, .asg 5 (.t 17), []⟩] [0, 1, 5])))))) (.seq (.reg false [⟨none, .p 26 (.mv (.t 1)), []⟩, ⟨none, .tk 4 (.t 26), []⟩] [4]) .ret)))))
theorem code_laws_szCallerS : ∃ c, Tryz.f22.body = some c ∧ cfit PP 27 c c_laws_szCallerS = true := by
  refine ⟨_, (rfl : Tryz.f22.body = some _), ?_⟩
  kernel_rfl
theorem t_szCallerS {G : Glob} (xs : List XCaller) (n : Int) (h1 : ((msL XCaller.ms xs : Nat) : Int) ≤ n) (h2 : n ≤ 1048576) : FnD PP G 22 [.val false [.vw none [] (.sl .ow 11 (xs.map XCaller.row))], .val false [.ow (.lit (.int .i64 n))]] [] []
    [.v false [.ow (.lit (.int .i64 (n - (msL XCaller.ms xs : Nat))))]] [] [] := by
  obtain ⟨cc, hb, hcf⟩ := code_laws_szCallerS
  refine fn_ok (fn := Tryz.f22) (specs := [.t 4]) (by kernel_rfl) hb (by show (27:Nat) ≤ 10000; omega) hcf (by kernel_rfl) (by show (2:Nat) ≤ 27; omega) (by simp) (by simp) rfl rfl (by simp) rfl ?_
  simp only [c_laws_szCallerS]
  simp only [msL, Int.natCast_add] at h1 ⊢
  simp only [push_cast, ↓reduceIte, Nat.reduceEqDiff, Nat.reduceLT, Nat.reduceLeDiff, Nat.reduceAdd, Nat.reduceMul, Nat.reduceSub, Nat.reduceDiv, Nat.reduceMod, Nat.reduceBEq, reduceCtorEq, Int.toNat_natCast, Int.reduceToNat, Option.some.injEq, Nat.le_refl, List.take_length]
  rw [wrap64 (by omega) (by omega)]
  refine cnd_dec (fun hne => by omega) (fun _ => ?_)
  simp only [push_cast, ↓reduceIte, Nat.reduceEqDiff, Nat.reduceLT, Nat.reduceLeDiff, Nat.reduceAdd, Nat.reduceMul, Nat.reduceSub, Nat.reduceDiv, Nat.reduceMod, Nat.reduceBEq, reduceCtorEq, Int.toNat_natCast, Int.reduceToNat, Option.some.injEq, Nat.le_refl, List.take_length]
  refine cwp_loop (fun i : Nat => ⟨[(0, .val false [.vw none [] (.sl .ow 11 (xs.map XCaller.row))]), (1, .val false [.ow (.lit (.int .i64 (n - xs.length - (((xs.take i).map XCaller.ms).sum : Nat))))]), (5, .val false [.ow (.lit (.int .i64 i))])], []⟩)
    (fun i => i ≤ xs.length) (fun i => xs.length - i) 0 rfl (by simp [St.norm, nmL, nmA, nmC, St.get, getL, keyB, nmPl, nmKs]) (by omega) ?_
  intro i hle
  simp only [push_cast, ↓reduceIte, Nat.reduceEqDiff, Nat.reduceLT, Nat.reduceLeDiff, Nat.reduceAdd, Nat.reduceMul, Nat.reduceSub, Nat.reduceDiv, Nat.reduceMod, Nat.reduceBEq, reduceCtorEq, Int.toNat_natCast, Int.reduceToNat, Option.some.injEq, Nat.le_refl, List.take_length]
  refine cnd_dec (fun hlt => ?_) (fun hge => ?_)
  · have hi : i < xs.length := by omega
    have hs := sum_take XCaller.ms xs i hi
    have hs2 := sum_le XCaller.ms xs (i + 1)
    simp only [push_cast, ↓reduceIte, Nat.reduceEqDiff, Nat.reduceLT, Nat.reduceLeDiff, Nat.reduceAdd, Nat.reduceMul, Nat.reduceSub, Nat.reduceDiv, Nat.reduceMod, Nat.reduceBEq, reduceCtorEq, Int.toNat_natCast, Int.reduceToNat, Option.some.injEq, Nat.le_refl, List.take_length]
    · skip
      simp only [push_cast, ↓reduceIte, Nat.reduceEqDiff, Nat.reduceLT, Nat.reduceLeDiff, Nat.reduceAdd, Nat.reduceMul, Nat.reduceSub, Nat.reduceDiv, Nat.reduceMod, Nat.reduceBEq, reduceCtorEq, Int.toNat_natCast, Int.reduceToNat, Option.some.injEq, Nat.le_refl, List.take_length, getD_map hi, XCaller.row]
      refine ⟨⟨by omega, by omega⟩, ?_⟩
      have hc := t_szCaller (G := G) xs[i] (n - xs.length - (((xs.take i).map XCaller.ms).sum : Nat)) (by omega) (by omega)
      simp only [XCaller.vw] at hc
      refine call_ok hc ?_
      clear hc
      simp only [push_cast, ↓reduceIte, Nat.reduceEqDiff, Nat.reduceLT, Nat.reduceLeDiff, Nat.reduceAdd, Nat.reduceMul, Nat.reduceSub, Nat.reduceDiv, Nat.reduceMod, Nat.reduceBEq, reduceCtorEq, Int.toNat_natCast, Int.reduceToNat, Option.some.injEq, Nat.le_refl, List.take_length]
      refine cnd_dec (fun hne => by omega) (fun _ => ?_)
      simp only [push_cast, ↓reduceIte, Nat.reduceEqDiff, Nat.reduceLT, Nat.reduceLeDiff, Nat.reduceAdd, Nat.reduceMul, Nat.reduceSub, Nat.reduceDiv, Nat.reduceMod, Nat.reduceBEq, reduceCtorEq, Int.toNat_natCast, Int.reduceToNat, Option.some.injEq, Nat.le_refl, List.take_length]
      refine ⟨i + 1, ?_, by omega, by omega⟩
      rw [wrap64 (by omega) (by omega), hs]
      simp [Int.sub_sub, Int.add_assoc]
  · have hi : i = xs.length := by omega
    subst hi
    simp only [push_cast, ↓reduceIte, Nat.reduceEqDiff, Nat.reduceLT, Nat.reduceLeDiff, Nat.reduceAdd, Nat.reduceMul, Nat.reduceSub, Nat.reduceDiv, Nat.reduceMod, Nat.reduceBEq, reduceCtorEq, Int.toNat_natCast, Int.reduceToNat, Option.some.injEq, Nat.le_refl, List.take_length]
    simp [Int.sub_sub]

noncomputable def c_laws_szGroup : ACode := (.seq (.reg false [⟨none, .box 2 (.t 0), []⟩, ⟨none, .tk 4 (.k (.i .i64 0)), []⟩] [1, 2, 10002]) (.seq (.reg false [⟨none, .p 5 (.mv (.t 1)), []⟩, ⟨none, .p 6 (.fa (.t 2) 0 0), []⟩, ⟨none, .p 7 (.ld (.t 6) 0 1 false), []⟩, ⟨none, .p 8 (.len true (.t 7)), []⟩, ⟨none, .p 9 (.bin .sub (.t 5) (.t 8)), []⟩, ⟨none, .asg 1 (.t 9), []⟩] [1, 2, 10002]) (.seq (.seq (.reg false [⟨none, .p 10 (.mv (.t 1)), []⟩, ⟨none, .p 11 (.bin .lss (.t 10) (.k (.i .i64 0))), []⟩] [1, 2, 11, 10002]) (.cond (.t 11) (.seq (.reg false [⟨none, .tk 4 (.k (.i .i64 (-1))), []⟩] [4]) .ret) .skip)) (.seq (.reg false [⟨none, .p 12 (.fa (.t 2) 0 1), []⟩, ⟨none, .p 13 (.ld (.t 12) 0 1 false), []⟩, ⟨none, .p 14 (.mv (.t 1)), []⟩, ⟨none, .call (some 15) 98 [.rd (.t 13), .rd (.t 14)], []⟩, ⟨none, .asg 1 (.t 15), []⟩] [1]) (.seq (.seq (.reg false [⟨none, .p 16 (.mv (.t 1)), []⟩, ⟨none, .p 17 (.bin .lss (.t 16) (.k (.i .i64 0))), []⟩] [1, 17]) (.cond (.t 17) (.seq (.reg false [⟨none, .tk 4 (.k (.i .i64 (-1))), []⟩] [4]) .ret) .skip)) (.seq (.reg false [⟨none, .p 18 (.mv (.t 1)), []⟩, ⟨none, .tk 4 (.t 18), []⟩] [4]) .ret))))))
theorem code_laws_szGroup : ∃ c, Tryz.f143.body = some c ∧ cfit PP 19 c c_laws_szGroup = true := by
  refine ⟨_, (rfl : Tryz.f143.body = some _), ?_⟩
  kernel_rfl
theorem t_szGroup {G : Glob} (a : XGroup) (n : Int) (h1 : (a.ms : Int) ≤ n) (h2 : n ≤ 1048576) : FnD PP G 143 [.val true a.vw, .val false [.ow (.lit (.int .i64 n))]] [] []
    [.v false [.ow (.lit (.int .i64 (n - a.ms)))]] [] [] := by
  obtain ⟨cc, hb, hcf⟩ := code_laws_szGroup
  refine fn_ok (fn := Tryz.f143) (specs := [.t 4]) (by kernel_rfl) hb (by show (19:Nat) ≤ 10000; omega) hcf (by kernel_rfl) (by show (2:Nat) ≤ 19; omega) (by simp) (by simp) rfl rfl (by simp) rfl ?_
  simp only [c_laws_szGroup]
  simp only [XGroup.vw]
  simp only [XGroup.ms, Int.natCast_add] at h1 ⊢
  simp only [push_cast, ↓reduceIte, Nat.reduceEqDiff, Nat.reduceLT, Nat.reduceLeDiff, Nat.reduceAdd, Nat.reduceMul, Nat.reduceSub, Nat.reduceDiv, Nat.reduceMod, Nat.reduceBEq, reduceCtorEq, Int.toNat_natCast, Int.reduceToNat, Option.some.injEq, Nat.le_refl, List.take_length]
  rw [wrap64 (by omega) (by omega)]
  refine cnd_dec (fun hne => by omega) (fun _ => ?_)
  simp only [push_cast, ↓reduceIte, Nat.reduceEqDiff, Nat.reduceLT, Nat.reduceLeDiff, Nat.reduceAdd, Nat.reduceMul, Nat.reduceSub, Nat.reduceDiv, Nat.reduceMod, Nat.reduceBEq, reduceCtorEq, Int.toNat_natCast, Int.reduceToNat, Option.some.injEq, Nat.le_refl, List.take_length]
  have hc := t_szStringS (G := G) a.Members (n - ((a.Name.size : Nat) : Int)) (by omega) (by omega)
  refine call_ok hc ?_
  clear hc
  simp only [push_cast, ↓reduceIte, Nat.reduceEqDiff, Nat.reduceLT, Nat.reduceLeDiff, Nat.reduceAdd, Nat.reduceMul, Nat.reduceSub, Nat.reduceDiv, Nat.reduceMod, Nat.reduceBEq, reduceCtorEq, Int.toNat_natCast, Int.reduceToNat, Option.some.injEq, Nat.le_refl, List.take_length]
  refine cnd_dec (fun hne => by omega) (fun _ => ?_)
  simp only [push_cast, ↓reduceIte, Nat.reduceEqDiff, Nat.reduceLT, Nat.reduceLeDiff, Nat.reduceAdd, Nat.reduceMul, Nat.reduceSub, Nat.reduceDiv, Nat.reduceMod, Nat.reduceBEq, reduceCtorEq, Int.toNat_natCast, Int.reduceToNat, Option.some.injEq, Nat.le_refl, List.take_length]
  try simp only [show n - ((a.Name.size : Nat) : Int) - ((msL ByteArray.size a.Members : Nat) : Int) = n - (((a.Name.size : Nat) : Int) + ((msL ByteArray.size a.Members : Nat) : Int)) from by omega]

noncomputable def c_laws_szGroupS : ACode := (.seq (.reg false [⟨none, .tk 4 (.k (.i .i64 0)), []⟩] [0, 1]) (.seq (.reg false [⟨none, .p 6 (.mv (.t 1)), []⟩, ⟨none, .p 7 (.mv (.t 0)), []⟩, ⟨none, .p 8 (.len false (.t 7)), []⟩, ⟨none, .p 9 (.bin .sub (.t 6) (.t 8)), []⟩, ⟨none, .asg 1 (.t 9), []⟩] [0, 1]) (.seq (.seq (.reg false [⟨none, .p 10 (.mv (.t 1)), []⟩, ⟨none, .p 11 (.bin .lss (.t 10) (.k (.i .i64 0))), []⟩] [0, 1, 11]) (.cond (.t 11) (.seq (.reg false [⟨none, .tk 4 (.k (.i .i64 (-1))), []⟩] [4]) .ret) .skip)) (.seq (.seq (.reg false [⟨none, .asg 5 (.k (.i .i64 0)), []⟩] [0, 1, 5]) (.block 0 (.loop [0, 1, 5] (.seq (.seq (.reg false [⟨none, .p 12 (.mv (.t 5)), []⟩, ⟨none, .p 13 (.mv (.t 0)), []⟩, ⟨none, .p 14 (.len false (.t 13)), []⟩, ⟨none, .p 15 (.bin .lss (.t 12) (.t 14)), []⟩] [0, 1, 5, 15]) (.cond (.t 15) .skip (.exit 0 [1]))) (.seq (.block 1 (.seq (.reg false [⟨none, .p 18 (.mv (.t 0)), []⟩, ⟨none, .p 19 (.mv (.t 5)), []⟩, ⟨none, .p 20 (.ia (.t 18) (.t 19) 2), []⟩, ⟨none, .p 21 (.ld (.t 20) 0 2 true), []⟩, ⟨none, .p 22 (.mv (.t 1)), []⟩, ⟨none, .call (some 23) 143 [.rd (.t 21), .rd (.t 22)], []⟩, ⟨none, .asg 1 (.t 23), []⟩] [0, 1, 5]) (.seq (.reg false [⟨none, .p 24 (.mv (.t 1)), []⟩, ⟨none, .p 25 (.bin .lss (.t 24) (.k (.i .i64 0))), []⟩] [0, 1, 5, 25]) (.cond (.t 25) (.seq (.reg false [⟨none, .tk 4 (.k (.i .i64 (-1))), []⟩] [4]) .ret) .skip)))) (.reg false [⟨none, .p 16 (.mv (.t 5)), []⟩, ⟨none, .p 17 (.bin .add (.t 16) (.k (.i .i64 1))), []⟩, ⟨none, .asg 5 (.t 17), []⟩] [0, 1, 5])))))) (.seq (.reg false [⟨none, .p 26 (.mv (.t 1)), []⟩, ⟨none, .tk 4 (.t 26), []⟩] [4]) .ret)))))
theorem code_laws_szGroupS : ∃ c, Tryz.f99.body = some c ∧ cfit PP 27 c c_laws_szGroupS = true := by
  refine ⟨_, (rfl : Tryz.f99.body = some _), ?_⟩
  kernel_rfl
theorem t_szGroupS {G : Glob} (xs : List XGroup) (n : Int) (h1 : ((msL XGroup.ms xs : Nat) : Int) ≤ n) (h2 : n ≤ 1048576) : FnD PP G 99 [.val false [.vw none [] (.sl .ow 2 (xs.map XGroup.row))], .val false [.ow (.lit (.int .i64 n))]] [] []
    [.v false [.ow (.lit (.int .i64 (n - (msL XGroup.ms xs : Nat))))]] [] [] := by
  obtain ⟨cc, hb, hcf⟩ := code_laws_szGroupS
  refine fn_ok (fn := Tryz.f99) (specs := [.t 4]) (by kernel_rfl) hb (by show (27:Nat) ≤ 10000; omega) hcf (by kernel_rfl) (by show (2:Nat) ≤ 27; omega) (by simp) (by simp) rfl rfl (by simp) rfl ?_
  simp only [c_laws_szGroupS]
  simp only [msL, Int.natCast_add] at h1 ⊢
  simp only [push_cast, ↓reduceIte, Nat.reduceEqDiff, Nat.reduceLT, Nat.reduceLeDiff, Nat.reduceAdd, Nat.reduceMul, Nat.reduceSub, Nat.reduceDiv, Nat.reduceMod, Nat.reduceBEq, reduceCtorEq, Int.toNat_natCast, Int.reduceToNat, Option.some.injEq, Nat.le_refl, List.take_length]
  rw [wrap64 (by omega) (by omega)]
  refine cnd_dec (fun hne => by omega) (fun _ => ?_)
  simp only [push_cast, ↓reduceIte, Nat.reduceEqDiff, Nat.reduceLT, Nat.reduceLeDiff, Nat.reduceAdd, Nat.reduceMul, Nat.reduceSub, Nat.reduceDiv, Nat.reduceMod, Nat.reduceBEq, reduceCtorEq, Int.toNat_natCast, Int.reduceToNat, Option.some.injEq, Nat.le_refl, List.take_length]
  refine cwp_loop (fun i : Nat => ⟨[(0, .val false [.vw none [] (.sl .ow 2 (xs.map XGroup.row))]), (1, .val false [.ow (.lit (.int .i64 (n - xs.length - (((xs.take i).map XGroup.ms).sum : Nat))))]), (5, .val false [.ow (.lit (.int .i64 i))])], []⟩)
    (fun i => i ≤ xs.length) (fun i => xs.length - i) 0 rfl (by simp [St.norm, nmL, nmA, nmC, St.get, getL, keyB, nmPl, nmKs]) (by omega) ?_
  intro i hle
  simp only [push_cast, ↓reduceIte, Nat.reduceEqDiff, Nat.reduceLT, Nat.reduceLeDiff, Nat.reduceAdd, Nat.reduceMul, Nat.reduceSub, Nat.reduceDiv, Nat.reduceMod, Nat.reduceBEq, reduceCtorEq, Int.toNat_natCast, Int.reduceToNat, Option.some.injEq, Nat.le_refl, List.take_length]
  refine cnd_dec (fun hlt => ?_) (fun hge => ?_)
  · have hi : i < xs.length := by omega
    have hs := sum_take XGroup.ms xs i hi
    have hs2 := sum_le XGroup.ms xs (i + 1)
    simp only [push_cast, ↓reduceIte, Nat.reduceEqDiff, Nat.reduceLT, Nat.reduceLeDiff, Nat.reduceAdd, Nat.reduceMul, Nat.reduceSub, Nat.reduceDiv, Nat.reduceMod, Nat.reduceBEq, reduceCtorEq, Int.toNat_natCast, Int.reduceToNat, Option.some.injEq, Nat.le_refl, List.take_length]
    · skip
      simp only [push_cast, ↓reduceIte, Nat.reduceEqDiff, Nat.reduceLT, Nat.reduceLeDiff, Nat.reduceAdd, Nat.reduceMul, Nat.reduceSub, Nat.reduceDiv, Nat.reduceMod, Nat.reduceBEq, reduceCtorEq, Int.toNat_natCast, Int.reduceToNat, Option.some.injEq, Nat.le_refl, List.take_length, getD_map hi, XGroup.row]
      refine ⟨⟨by omega, by omega⟩, ?_⟩
      have hc := t_szGroup (G := G) xs[i] (n - xs.length - (((xs.take i).map XGroup.ms).sum : Nat)) (by omega) (by omega)
      simp only [XGroup.vw] at hc
      refine call_ok hc ?_
      clear hc
      simp only [push_cast, ↓reduceIte, Nat.reduceEqDiff, Nat.reduceLT, Nat.reduceLeDiff, Nat.reduceAdd, Nat.reduceMul, Nat.reduceSub, Nat.reduceDiv, Nat.reduceMod, Nat.reduceBEq, reduceCtorEq, Int.toNat_natCast, Int.reduceToNat, Option.some.injEq, Nat.le_refl, List.take_length]
      refine cnd_dec (fun hne => by omega) (fun _ => ?_)
      simp only [push_cast, ↓reduceIte, Nat.reduceEqDiff, Nat.reduceLT, Nat.reduceLeDiff, Nat.reduceAdd, Nat.reduceMul, Nat.reduceSub, Nat.reduceDiv, Nat.reduceMod, Nat.reduceBEq, reduceCtorEq, Int.toNat_natCast, Int.reduceToNat, Option.some.injEq, Nat.le_refl, List.take_length]
      refine ⟨i + 1, ?_, by omega, by omega⟩
      rw [wrap64 (by omega) (by omega), hs]
      simp [Int.sub_sub, Int.add_assoc]
  · have hi : i = xs.length := by omega
    subst hi
    simp only [push_cast, ↓reduceIte, Nat.reduceEqDiff, Nat.reduceLT, Nat.reduceLeDiff, Nat.reduceAdd, Nat.reduceMul, Nat.reduceSub, Nat.reduceDiv, Nat.reduceMod, Nat.reduceBEq, reduceCtorEq, Int.toNat_natCast, Int.reduceToNat, Option.some.injEq, Nat.le_refl, List.take_length]
    simp [Int.sub_sub]

noncomputable def c_laws_szTable : ACode := (.seq (.reg false [⟨none, .box 2 (.t 0), []⟩, ⟨none, .tk 4 (.k (.i .i64 0)), []⟩] [1, 2, 10002]) (.seq (.reg false [⟨none, .p 5 (.fa (.t 2) 0 0), []⟩, ⟨none, .p 6 (.ld (.t 5) 0 1 false), []⟩, ⟨none, .p 7 (.mv (.t 1)), []⟩, ⟨none, .call (some 8) 99 [.rd (.t 6), .rd (.t 7)], []⟩, ⟨none, .asg 1 (.t 8), []⟩] [1]) (.seq (.seq (.reg false [⟨none, .p 9 (.mv (.t 1)), []⟩, ⟨none, .p 10 (.bin .lss (.t 9) (.k (.i .i64 0))), []⟩] [1, 10]) (.cond (.t 10) (.seq (.reg false [⟨none, .tk 4 (.k (.i .i64 (-1))), []⟩] [4]) .ret) .skip)) (.seq (.reg false [⟨none, .p 11 (.mv (.t 1)), []⟩, ⟨none, .tk 4 (.t 11), []⟩] [4]) .ret))))
theorem code_laws_szTable : ∃ c, Tryz.f58.body = some c ∧ cfit PP 12 c c_laws_szTable = true := by
  refine ⟨_, (rfl : Tryz.f58.body = some _), ?_⟩
  kernel_rfl
theorem t_szTable {G : Glob} (a : XTable) (n : Int) (h1 : (a.ms : Int) ≤ n) (h2 : n ≤ 1048576) : FnD PP G 58 [.val true a.vw, .val false [.ow (.lit (.int .i64 n))]] [] []
    [.v false [.ow (.lit (.int .i64 (n - a.ms)))]] [] [] := by
  obtain ⟨cc, hb, hcf⟩ := code_laws_szTable
  refine fn_ok (fn := Tryz.f58) (specs := [.t 4]) (by kernel_rfl) hb (by show (12:Nat) ≤ 10000; omega) hcf (by kernel_rfl) (by show (2:Nat) ≤ 12; omega) (by simp) (by simp) rfl rfl (by simp) rfl ?_
  simp only [c_laws_szTable]
  simp only [XTable.vw]
  simp only [XTable.ms, Int.natCast_add] at h1 ⊢
  simp only [push_cast, ↓reduceIte, Nat.reduceEqDiff, Nat.reduceLT, Nat.reduceLeDiff, Nat.reduceAdd, Nat.reduceMul, Nat.reduceSub, Nat.reduceDiv, Nat.reduceMod, Nat.reduceBEq, reduceCtorEq, Int.toNat_natCast, Int.reduceToNat, Option.some.injEq, Nat.le_refl, List.take_length]
  have hc := t_szGroupS (G := G) a.Groups (n) (by omega) (by omega)
  refine call_ok hc ?_
  clear hc
  simp only [push_cast, ↓reduceIte, Nat.reduceEqDiff, Nat.reduceLT, Nat.reduceLeDiff, Nat.reduceAdd, Nat.reduceMul, Nat.reduceSub, Nat.reduceDiv, Nat.reduceMod, Nat.reduceBEq, reduceCtorEq, Int.toNat_natCast, Int.reduceToNat, Option.some.injEq, Nat.le_refl, List.take_length]
  refine cnd_dec (fun hne => by omega) (fun _ => ?_)
  simp only [push_cast, ↓reduceIte, Nat.reduceEqDiff, Nat.reduceLT, Nat.reduceLeDiff, Nat.reduceAdd, Nat.reduceMul, Nat.reduceSub, Nat.reduceDiv, Nat.reduceMod, Nat.reduceBEq, reduceCtorEq, Int.toNat_natCast, Int.reduceToNat, Option.some.injEq, Nat.le_refl, List.take_length]
  try simp only [show n - ((msL XGroup.ms a.Groups : Nat) : Int) = n - (((msL XGroup.ms a.Groups : Nat) : Int)) from by omega]

noncomputable def c_laws_szTableS : ACode := (.seq (.reg false [⟨none, .tk 4 (.k (.i .i64 0)), []⟩] [0, 1]) (.seq (.reg false [⟨none, .p 6 (.mv (.t 1)), []⟩, ⟨none, .p 7 (.mv (.t 0)), []⟩, ⟨none, .p 8 (.len false (.t 7)), []⟩, ⟨none, .p 9 (.bin .sub (.t 6) (.t 8)), []⟩, ⟨none, .asg 1 (.t 9), []⟩] [0, 1]) (.seq (.seq (.reg false [⟨none, .p 10 (.mv (.t 1)), []⟩, ⟨none, .p 11 (.bin .lss (.t 10) (.k (.i .i64 0))), []⟩] [0, 1, 11]) (.cond (.t 11) (.seq (.reg false [⟨none, .tk 4 (.k (.i .i64 (-1))), []⟩] [4]) .ret) .skip)) (.seq (.seq (.reg false [⟨none, .asg 5 (.k (.i .i64 0)), []⟩] [0, 1, 5]) (.block 0 (.loop [0, 1, 5] (.seq (.seq (.reg false [⟨none, .p 12 (.mv (.t 5)), []⟩, ⟨none, .p 13 (.mv (.t 0)), []⟩, ⟨none, .p 14 (.len false (.t 13)), []⟩, ⟨none, .p 15 (.bin .lss (.t 12) (.t 14)), []⟩] [0, 1, 5, 15]) (.cond (.t 15) .skip (.exit 0 [1]))) (.seq (.block 1 (.seq (.reg false [⟨none, .p 18 (.mv (.t 0)), []⟩, ⟨none, .p 19 (.mv (.t 5)), []⟩, ⟨none, .p 20 (.ia (.t 18) (.t 19) 1), []⟩, ⟨none, .p 21 (.ld (.t 20) 0 1 true), []⟩, ⟨none, .p 22 (.mv (.t 1)), []⟩, ⟨none, .call (some 23) 58 [.rd (.t 21), .rd (.t 22)], []⟩, ⟨none, .asg 1 (.t 23), []⟩] [0, 1, 5]) (.seq (.reg false [⟨none, .p 24 (.mv (.t 1)), []⟩, ⟨none, .p 25 (.bin .lss (.t 24) (.k (.i .i64 0))), []⟩] [0, 1, 5, 25]) (.cond (.t 25) (.seq (.reg false [⟨none, .tk 4 (.k (.i .i64 (-1))), []⟩] [4]) .ret) .skip)))) (.reg false [⟨none, .p 16 (.mv (.t 5)), []⟩, ⟨none, .p 17 (.bin .add (.t 16) (.k (.i .i64 1))), []⟩, ⟨none, .asg 5 (.t 17), []⟩] [0, 1, 5])))))) (.seq (.reg false [⟨none, .p 26 (.mv (.t 1)), []⟩, ⟨none, .tk 4 (.t 26), []⟩] [4]) .ret)))))
theorem code_laws_szTableS : ∃ c, Tryz.f23.body = some c ∧ cfit PP 27 c c_laws_szTableS = true := by
  refine ⟨_, (rfl : Tryz.f23.body = some _), ?_⟩
  kernel_rfl
theorem t_szTableS {G : Glob} (xs : List XTable) (n : Int) (h1 : ((msL XTable.ms xs : Nat) : Int) ≤ n) (h2 : n ≤ 1048576) : FnD PP G 23 [.val false [.vw none [] (.sl .ow 1 (xs.map XTable.row))], .val false [.ow (.lit (.int .i64 n))]] [] []
    [.v false [.ow (.lit (.int .i64 (n - (msL XTable.ms xs : Nat))))]] [] [] := by
  obtain ⟨cc, hb, hcf⟩ := code_laws_szTableS
  refine fn_ok (fn := Tryz.f23) (specs := [.t 4]) (by kernel_rfl) hb (by show (27:Nat) ≤ 10000; omega) hcf (by kernel_rfl) (by show (2:Nat) ≤ 27; omega) (by simp) (by simp) rfl rfl (by simp) rfl ?_
  simp only [c_laws_szTableS]
  simp only [msL, Int.natCast_add] at h1 ⊢
  simp only [push_cast, ↓reduceIte, Nat.reduceEqDiff, Nat.reduceLT, Nat.reduceLeDiff, Nat.reduceAdd, Nat.reduceMul, Nat.reduceSub, Nat.reduceDiv, Nat.reduceMod, Nat.reduceBEq, reduceCtorEq, Int.toNat_natCast, Int.reduceToNat, Option.some.injEq, Nat.le_refl, List.take_length]
  rw [wrap64 (by omega) (by omega)]
  refine cnd_dec (fun hne => by omega) (fun _ => ?_)
  simp only [push_cast, ↓reduceIte, Nat.reduceEqDiff, Nat.reduceLT, Nat.reduceLeDiff, Nat.reduceAdd, Nat.reduceMul, Nat.reduceSub, Nat.reduceDiv, Nat.reduceMod, Nat.reduceBEq, reduceCtorEq, Int.toNat_natCast, Int.reduceToNat, Option.some.injEq, Nat.le_refl, List.take_length]
  refine cwp_loop (fun i : Nat => ⟨[(0, .val false [.vw none [] (.sl .ow 1 (xs.map XTable.row))]), (1, .val false [.ow (.lit (.int .i64 (n - xs.length - (((xs.take i).map XTable.ms).sum : Nat))))]), (5, .val false [.ow (.lit (.int .i64 i))])], []⟩)
    (fun i => i ≤ xs.length) (fun i => xs.length - i) 0 rfl (by simp [St.norm, nmL, nmA, nmC, St.get, getL, keyB, nmPl, nmKs]) (by omega) ?_
  intro i hle
  simp only [push_cast, ↓reduceIte, Nat.reduceEqDiff, Nat.reduceLT, Nat.reduceLeDiff, Nat.reduceAdd, Nat.reduceMul, Nat.reduceSub, Nat.reduceDiv, Nat.reduceMod, Nat.reduceBEq, reduceCtorEq, Int.toNat_natCast, Int.reduceToNat, Option.some.injEq, Nat.le_refl, List.take_length]
  refine cnd_dec (fun hlt => ?_) (fun hge => ?_)
  · have hi : i < xs.length := by omega
    have hs := sum_take XTable.ms xs i hi
    have hs2 := sum_le XTable.ms xs (i + 1)
    simp only [push_cast, ↓reduceIte, Nat.reduceEqDiff, Nat.reduceLT, Nat.reduceLeDiff, Nat.reduceAdd, Nat.reduceMul, Nat.reduceSub, Nat.reduceDiv, Nat.reduceMod, Nat.reduceBEq, reduceCtorEq, Int.toNat_natCast, Int.reduceToNat, Option.some.injEq, Nat.le_refl, List.take_length]
    · skip
      simp only [push_cast, ↓reduceIte, Nat.reduceEqDiff, Nat.reduceLT, Nat.reduceLeDiff, Nat.reduceAdd, Nat.reduceMul, Nat.reduceSub, Nat.reduceDiv, Nat.reduceMod, Nat.reduceBEq, reduceCtorEq, Int.toNat_natCast, Int.reduceToNat, Option.some.injEq, Nat.le_refl, List.take_length, getD_map hi, XTable.row]
      refine ⟨⟨by omega, by omega⟩, ?_⟩
      have hc := t_szTable (G := G) xs[i] (n - xs.length - (((xs.take i).map XTable.ms).sum : Nat)) (by omega) (by omega)
      simp only [XTable.vw] at hc
      refine call_ok hc ?_
      clear hc
      simp only [push_cast, ↓reduceIte, Nat.reduceEqDiff, Nat.reduceLT, Nat.reduceLeDiff, Nat.reduceAdd, Nat.reduceMul, Nat.reduceSub, Nat.reduceDiv, Nat.reduceMod, Nat.reduceBEq, reduceCtorEq, Int.toNat_natCast, Int.reduceToNat, Option.some.injEq, Nat.le_refl, List.take_length]
      refine cnd_dec (fun hne => by omega) (fun _ => ?_)
      simp only [push_cast, ↓reduceIte, Nat.reduceEqDiff, Nat.reduceLT, Nat.reduceLeDiff, Nat.reduceAdd, Nat.reduceMul, Nat.reduceSub, Nat.reduceDiv, Nat.reduceMod, Nat.reduceBEq, reduceCtorEq, Int.toNat_natCast, Int.reduceToNat, Option.some.injEq, Nat.le_refl, List.take_length]
      refine ⟨i + 1, ?_, by omega, by omega⟩
      rw [wrap64 (by omega) (by omega), hs]
      simp [Int.sub_sub, Int.add_assoc]
  · have hi : i = xs.length := by omega
    subst hi
    simp only [push_cast, ↓reduceIte, Nat.reduceEqDiff, Nat.reduceLT, Nat.reduceLeDiff, Nat.reduceAdd, Nat.reduceMul, Nat.reduceSub, Nat.reduceDiv, Nat.reduceMod, Nat.reduceBEq, reduceCtorEq, Int.toNat_natCast, Int.reduceToNat, Option.some.injEq, Nat.le_refl, List.take_length]
    simp [Int.sub_sub]

noncomputable def c_laws_szHall : ACode := (.seq (.reg false [⟨none, .box 2 (.t 0), []⟩, ⟨none, .tk 4 (.k (.i .i64 0)), []⟩] [1, 2, 10002]) (.seq (.reg false [⟨none, .p 5 (.fa (.t 2) 0 0), []⟩, ⟨none, .p 6 (.ld (.t 5) 0 4 true), []⟩, ⟨none, .p 7 (.mv (.t 1)), []⟩, ⟨none, .call (some 8) 21 [.rd (.t 6), .rd (.t 7)], []⟩, ⟨none, .asg 1 (.t 8), []⟩] [1, 2, 10002]) (.seq (.seq (.reg false [⟨none, .p 9 (.mv (.t 1)), []⟩, ⟨none, .p 10 (.bin .lss (.t 9) (.k (.i .i64 0))), []⟩] [1, 2, 10, 10002]) (.cond (.t 10) (.seq (.reg false [⟨none, .tk 4 (.k (.i .i64 (-1))), []⟩] [4]) .ret) .skip)) (.seq (.reg false [⟨none, .p 11 (.fa (.t 2) 0 4), []⟩, ⟨none, .p 12 (.ld (.t 11) 0 1 false), []⟩, ⟨none, .p 13 (.mv (.t 1)), []⟩, ⟨none, .call (some 14) 22 [.rd (.t 12), .rd (.t 13)], []⟩, ⟨none, .asg 1 (.t 14), []⟩] [1, 2, 10002]) (.seq (.seq (.reg false [⟨none, .p 15 (.mv (.t 1)), []⟩, ⟨none, .p 16 (.bin .lss (.t 15) (.k (.i .i64 0))), []⟩] [1, 2, 16, 10002]) (.cond (.t 16) (.seq (.reg false [⟨none, .tk 4 (.k (.i .i64 (-1))), []⟩] [4]) .ret) .skip)) (.seq (.reg false [⟨none, .p 17 (.fa (.t 2) 0 5), []⟩, ⟨none, .p 18 (.ld (.t 17) 0 1 false), []⟩, ⟨none, .p 19 (.mv (.t 1)), []⟩, ⟨none, .call (some 20) 23 [.rd (.t 18), .rd (.t 19)], []⟩, ⟨none, .asg 1 (.t 20), []⟩] [1, 2, 10002]) (.seq (.seq (.reg false [⟨none, .p 21 (.mv (.t 1)), []⟩, ⟨none, .p 22 (.bin .lss (.t 21) (.k (.i .i64 0))), []⟩] [1, 2, 22, 10002]) (.cond (.t 22) (.seq (.reg false [⟨none, .tk 4 (.k (.i .i64 (-1))), []⟩] [4]) .ret) .skip)) (.seq (.reg false [⟨none, .p 23 (.fa (.t 2) 0 6), []⟩, ⟨none, .p 24 (.ld (.t 23) 0 1 false), []⟩, ⟨none, .p 25 (.mv (.t 1)), []⟩, ⟨none, .call (some 26) 24 [.rd (.t 24), .rd (.t 25)], []⟩, ⟨none, .asg 1 (.t 26), []⟩] [1]) (.seq (.seq (.reg false [⟨none, .p 27 (.mv (.t 1)), []⟩, ⟨none, .p 28 (.bin .lss (.t 27) (.k (.i .i64 0))), []⟩] [1, 28]) (.cond (.t 28) (.seq (.reg false [⟨none, .tk 4 (.k (.i .i64 (-1))), []⟩] [4]) .ret) .skip)) (.seq (.reg false [⟨none, .p 29 (.mv (.t 1)), []⟩, ⟨none, .tk 4 (.t 29), []⟩] [4]) .ret))))))))))
theorem code_laws_szHall : ∃ c, Tryz.f5.body = some c ∧ cfit PP 30 c c_laws_szHall = true := by
  refine ⟨_, (rfl : Tryz.f5.body = some _), ?_⟩
  kernel_rfl
theorem t_szHall {G : Glob} (a : XHall) (n : Int) (h1 : (a.ms : Int) ≤ n) (h2 : n ≤ 1048576) : FnD PP G 5 [.val true a.vw, .val false [.ow (.lit (.int .i64 n))]] [] []
    [.v false [.ow (.lit (.int .i64 (n - a.ms)))]] [] [] := by
  obtain ⟨cc, hb, hcf⟩ := code_laws_szHall
  refine fn_ok (fn := Tryz.f5) (specs := [.t 4]) (by kernel_rfl) hb (by show (30:Nat) ≤ 10000; omega) hcf (by kernel_rfl) (by show (2:Nat) ≤ 30; omega) (by simp) (by simp) rfl rfl (by simp) rfl ?_
  simp only [c_laws_szHall]
  simp only [XHall.vw]
  simp only [XHall.ms, Int.natCast_add] at h1 ⊢
  simp only [push_cast, ↓reduceIte, Nat.reduceEqDiff, Nat.reduceLT, Nat.reduceLeDiff, Nat.reduceAdd, Nat.reduceMul, Nat.reduceSub, Nat.reduceDiv, Nat.reduceMod, Nat.reduceBEq, reduceCtorEq, Int.toNat_natCast, Int.reduceToNat, Option.some.injEq, Nat.le_refl, List.take_length]
  have hc := t_szWorld (G := G) a.World (n) (by omega) (by omega)
  simp only [XWorld.vw] at hc
  refine call_ok hc ?_
  clear hc
  simp only [push_cast, ↓reduceIte, Nat.reduceEqDiff, Nat.reduceLT, Nat.reduceLeDiff, Nat.reduceAdd, Nat.reduceMul, Nat.reduceSub, Nat.reduceDiv, Nat.reduceMod, Nat.reduceBEq, reduceCtorEq, Int.toNat_natCast, Int.reduceToNat, Option.some.injEq, Nat.le_refl, List.take_length]
  refine cnd_dec (fun hne => by omega) (fun _ => ?_)
  simp only [push_cast, ↓reduceIte, Nat.reduceEqDiff, Nat.reduceLT, Nat.reduceLeDiff, Nat.reduceAdd, Nat.reduceMul, Nat.reduceSub, Nat.reduceDiv, Nat.reduceMod, Nat.reduceBEq, reduceCtorEq, Int.toNat_natCast, Int.reduceToNat, Option.some.injEq, Nat.le_refl, List.take_length]
  have hc := t_szCallerS (G := G) a.Callers (n - ((a.World.ms : Nat) : Int)) (by omega) (by omega)
  refine call_ok hc ?_
  clear hc
  simp only [push_cast, ↓reduceIte, Nat.reduceEqDiff, Nat.reduceLT, Nat.reduceLeDiff, Nat.reduceAdd, Nat.reduceMul, Nat.reduceSub, Nat.reduceDiv, Nat.reduceMod, Nat.reduceBEq, reduceCtorEq, Int.toNat_natCast, Int.reduceToNat, Option.some.injEq, Nat.le_refl, List.take_length]
  refine cnd_dec (fun hne => by omega) (fun _ => ?_)
  simp only [push_cast, ↓reduceIte, Nat.reduceEqDiff, Nat.reduceLT, Nat.reduceLeDiff, Nat.reduceAdd, Nat.reduceMul, Nat.reduceSub, Nat.reduceDiv, Nat.reduceMod, Nat.reduceBEq, reduceCtorEq, Int.toNat_natCast, Int.reduceToNat, Option.some.injEq, Nat.le_refl, List.take_length]
  have hc := t_szTableS (G := G) a.Tables (n - ((a.World.ms : Nat) : Int) - ((msL XCaller.ms a.Callers : Nat) : Int)) (by omega) (by omega)
  refine call_ok hc ?_
  clear hc
  simp only [push_cast, ↓reduceIte, Nat.reduceEqDiff, Nat.reduceLT, Nat.reduceLeDiff, Nat.reduceAdd, Nat.reduceMul, Nat.reduceSub, Nat.reduceDiv, Nat.reduceMod, Nat.reduceBEq, reduceCtorEq, Int.toNat_natCast, Int.reduceToNat, Option.some.injEq, Nat.le_refl, List.take_length]
  refine cnd_dec (fun hne => by omega) (fun _ => ?_)
  simp only [push_cast, ↓reduceIte, Nat.reduceEqDiff, Nat.reduceLT, Nat.reduceLeDiff, Nat.reduceAdd, Nat.reduceMul, Nat.reduceSub, Nat.reduceDiv, Nat.reduceMod, Nat.reduceBEq, reduceCtorEq, Int.toNat_natCast, Int.reduceToNat, Option.some.injEq, Nat.le_refl, List.take_length]
  have hc := t_szIntS (G := G) a.Seen (n - ((a.World.ms : Nat) : Int) - ((msL XCaller.ms a.Callers : Nat) : Int) - ((msL XTable.ms a.Tables : Nat) : Int)) (by omega) (by omega)
  refine call_ok hc ?_
  clear hc
  simp only [push_cast, ↓reduceIte, Nat.reduceEqDiff, Nat.reduceLT, Nat.reduceLeDiff, Nat.reduceAdd, Nat.reduceMul, Nat.reduceSub, Nat.reduceDiv, Nat.reduceMod, Nat.reduceBEq, reduceCtorEq, Int.toNat_natCast, Int.reduceToNat, Option.some.injEq, Nat.le_refl, List.take_length]
  refine cnd_dec (fun hne => by omega) (fun _ => ?_)
  simp only [push_cast, ↓reduceIte, Nat.reduceEqDiff, Nat.reduceLT, Nat.reduceLeDiff, Nat.reduceAdd, Nat.reduceMul, Nat.reduceSub, Nat.reduceDiv, Nat.reduceMod, Nat.reduceBEq, reduceCtorEq, Int.toNat_natCast, Int.reduceToNat, Option.some.injEq, Nat.le_refl, List.take_length]
  try simp only [show n - ((a.World.ms : Nat) : Int) - ((msL XCaller.ms a.Callers : Nat) : Int) - ((msL XTable.ms a.Tables : Nat) : Int) - ((a.Seen.length : Nat) : Int) = n - (((a.World.ms : Nat) : Int) + ((msL XCaller.ms a.Callers : Nat) : Int) + ((msL XTable.ms a.Tables : Nat) : Int) + ((a.Seen.length : Nat) : Int)) from by omega]

end Go.Eng
