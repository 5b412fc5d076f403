/- Harness: printed by hgen.py. -/
import Derived.Test.YtpgdmpihbfmnfaaDoorHA
set_option linter.unusedSimpArgs false
set_option linter.unusedVariables false
set_option maxRecDepth 100000
namespace Go.Eng
open Go.Proofs
noncomputable def c_laws_markIntS : ACode := (.seq (.reg false [⟨none, .tk 4 (.k (.i .i64 0)), []⟩] [0, 1, 16000]) (.seq (.seq (.reg false [⟨none, .asg 5 (.k (.i .i64 0)), []⟩] [0, 1, 5, 16000]) (.block 0 (.loop [0, 1, 5, 16000] (.seq (.seq (.reg false [⟨none, .p 6 (.mv (.t 5)), []⟩, ⟨none, .p 7 (.mv (.t 0)), []⟩, ⟨none, .p 8 (.len false (.t 7)), []⟩, ⟨none, .p 9 (.bin .lss (.t 6) (.t 8)), []⟩] [0, 1, 5, 9, 16000]) (.cond (.t 9) .skip (.exit 0 [1, 16000]))) (.seq (.block 1 (.seq (.reg false [⟨none, .p 12 (.mv (.t 0)), []⟩, ⟨none, .p 13 (.mv (.t 5)), []⟩, ⟨none, .p 14 (.mv (.t 1)), []⟩, ⟨none, .p 15 (.ia (.t 12) (.t 13) 1), []⟩, ⟨none, .st (.t 15) (.t 14) 1, []⟩] [0, 1, 5, 16000]) (.reg false [⟨none, .p 16 (.mv (.t 1)), []⟩, ⟨none, .p 17 (.bin .add (.t 16) (.k (.i .i64 1))), []⟩, ⟨none, .asg 1 (.t 17), []⟩] [0, 1, 5, 16000]))) (.reg false [⟨none, .p 10 (.mv (.t 5)), []⟩, ⟨none, .p 11 (.bin .add (.t 10) (.k (.i .i64 1))), []⟩, ⟨none, .asg 5 (.t 11), []⟩] [0, 1, 5, 16000])))))) (.seq (.reg false [⟨none, .p 18 (.mv (.t 1)), []⟩, ⟨none, .tk 4 (.t 18), []⟩] [4, 16000]) .ret)))
theorem code_laws_markIntS : ∃ c, Tryd.f24.body = some c ∧ cfit PP 19 c c_laws_markIntS = true := by
  refine ⟨_, (rfl : Tryd.f24.body = some _), ?_⟩
  kernel_rfl
theorem t_markIntS {G : Glob} (xs : List Int) (k : Nat) (hk : k + cntL (fun _ => 1) xs ≤ 1073741824) : FnD PP G 24 [.al 0 false, .val false [.ow (.lit (.int .i64 k))]] [] [(0, [.sl .el 1 (xs.map intR)])]
    [.v false [.ow (.lit (.int .i64 (k + cntL (fun _ => 1) xs : Nat)))]] [] [(0, [.sl .el 1 ((mkL (fun n _ => (n : Int)) (fun _ => 1) k xs).map intR)])] := by
  refine fn_bd fun hbd => ?_
  have hx : xs.length ≤ 281474976710656 := hbd _ (by simp [hdsA, lenT, Cl.tree])
  clear hbd
  obtain ⟨cc, hb, hcf⟩ := code_laws_markIntS
  refine fn_ok (fn := Tryd.f24) (specs := [.t 4]) (by kernel_rfl) hb (by show (19:Nat) ≤ 10000; omega) hcf (by kernel_rfl) (by show (2:Nat) ≤ 19; omega) (by simp) (by simp) rfl rfl (by simp) rfl ?_
  simp only [c_laws_markIntS]
  push_cast
  refine cwp_loop (fun i : Nat => ⟨[(0, .al 0 false), (1, .val false [.ow (.lit (.int .i64 (k + cntL (fun _ => 1) (xs.take i) : Nat)))]), (5, .val false [.ow (.lit (.int .i64 i))]), (16000, .hid [.sl .el 1 ((mkL (fun n _ => (n : Int)) (fun _ => 1) k (xs.take i) ++ xs.drop i).map intR)])], []⟩)
    (fun i => i ≤ xs.length) (fun i => xs.length - i) 0 rfl (by simp [mkL, cntL]; rfl) (by omega) ?_
  intro i hle
  have hlen : (mkL (fun n _ => (n : Int)) (fun _ => 1) k (xs.take i) ++ xs.drop i).length = xs.length := by rw [List.length_append, mkL_len]; simp; omega
  by_cases hi : i < xs.length
  · have e := mark_step intR (fun n _ => (n : Int)) (fun _ => 1) xs k i hi
    have hcl : k + cntL (fun _ => 1) (xs.take (i + 1)) = (k + cntL (fun _ => 1) (xs.take i)) + (fun _ => 1) xs[i] := cnt_step (fun _ => 1) xs k i hi
    have hKb : (k + cntL (fun _ => 1) (xs.take i)) + (fun _ => 1) xs[i] ≤ 1073741824 := Nat.le_trans (cnt_le (fun _ => 1) xs k i hi) hk
    have hB1 : (mkL (fun n _ => (n : Int)) (fun _ => 1) k (xs.take i) ++ xs.drop i).map intR = ((mkL (fun n _ => (n : Int)) (fun _ => 1) k (xs.take i) ++ xs.drop i).map intR).set i (intR xs[i]) := (mark_at intR (fun n _ => (n : Int)) (fun _ => 1) xs k i hi).symm
    rw [hB1]
    generalize k + cntL (fun _ => 1) (xs.take i) = K at hcl hKb e ⊢
    have hB2 : i < ((mkL (fun n _ => (n : Int)) (fun _ => 1) k (xs.take i) ++ xs.drop i).map intR).length := by rw [List.length_map]; omega
    have hlen2 : ((mkL (fun n _ => (n : Int)) (fun _ => 1) k (xs.take i) ++ xs.drop i).map intR).length = xs.length := by rw [List.length_map]; exact hlen
    generalize (mkL (fun n _ => (n : Int)) (fun _ => 1) k (xs.take i) ++ xs.drop i).map intR = B at e hB2 hlen2 ⊢
    clear hB1 hlen
    simp only [intR] at e
    simp only [intR]
    try simp only [Nat.add_zero] at hKb
    push_cast [List.length_set, getD_set_eq hB2, getq_set_eq hB2, set_modify, mkL_len, set2]
    refine cnd_dec (fun hlt => ?_) (fun hge => by omega)
    push_cast [List.length_set, getD_set_eq hB2, getq_set_eq hB2, set_modify, mkL_len, set2]
    try simp (disch := omega) only [wrap64]
    repeat (first | refine And.intro (by omega) ?_ | refine And.intro ⟨by omega, by omega⟩ ?_ | refine And.intro ⟨by omega, by omega, by omega⟩ ?_)
    refine ⟨i + 1, ?_, by omega, by omega⟩
    have hcl2 := congrArg (fun x : Nat => (x : Int)) hcl
    try simp only [Nat.add_zero, Int.natCast_add, Int.cast_ofNat_Int, Int.natCast_one] at hcl2
    try simp only [Int.natCast_add, Int.cast_ofNat_Int, Int.natCast_one]
    rw [hcl2, e]
    try simp only [Int.add_assoc]
  · have hi : i = xs.length := by omega
    subst hi
    have hl0 : ((mkL (fun n _ => (n : Int)) (fun _ => 1) k (xs.take xs.length) ++ xs.drop xs.length).map intR) = (mkL (fun n _ => (n : Int)) (fun _ => 1) k xs).map intR := by simp
    rw [hl0, List.take_length]
    push_cast
    refine cnd_dec (fun hlt => ?_) (fun hge => ?_)
    · rw [mkL_len] at hlt; omega
    push_cast

noncomputable def c_laws_markStringS : ACode := (.seq (.reg false [⟨none, .tk 4 (.k (.i .i64 0)), []⟩] [0, 1, 16000]) (.seq (.seq (.reg false [⟨none, .asg 5 (.k (.i .i64 0)), []⟩] [0, 1, 5, 16000]) (.block 0 (.loop [0, 1, 5, 16000] (.seq (.seq (.reg false [⟨none, .p 6 (.mv (.t 5)), []⟩, ⟨none, .p 7 (.mv (.t 0)), []⟩, ⟨none, .p 8 (.len false (.t 7)), []⟩, ⟨none, .p 9 (.bin .lss (.t 6) (.t 8)), []⟩] [0, 1, 5, 9, 16000]) (.cond (.t 9) .skip (.exit 0 [1, 16000]))) (.seq (.block 1 (.seq (.reg false [⟨none, .p 12 (.mv (.t 0)), []⟩, ⟨none, .p 13 (.mv (.t 5)), []⟩, ⟨none, .p 14 (.mv (.t 1)), []⟩, ⟨none, .call (some 15) 50 [.rd (.t 14)], []⟩, ⟨none, .p 16 (.ia (.t 12) (.t 13) 1), []⟩, ⟨none, .st (.t 16) (.t 15) 1, []⟩] [0, 1, 5, 16000]) (.reg false [⟨none, .p 17 (.mv (.t 1)), []⟩, ⟨none, .p 18 (.bin .add (.t 17) (.k (.i .i64 1))), []⟩, ⟨none, .asg 1 (.t 18), []⟩] [0, 1, 5, 16000]))) (.reg false [⟨none, .p 10 (.mv (.t 5)), []⟩, ⟨none, .p 11 (.bin .add (.t 10) (.k (.i .i64 1))), []⟩, ⟨none, .asg 5 (.t 11), []⟩] [0, 1, 5, 16000])))))) (.seq (.reg false [⟨none, .p 19 (.mv (.t 1)), []⟩, ⟨none, .tk 4 (.t 19), []⟩] [4, 16000]) .ret)))
theorem code_laws_markStringS : ∃ c, Tryd.f51.body = some c ∧ cfit PP 20 c c_laws_markStringS = true := by
  refine ⟨_, (rfl : Tryd.f51.body = some _), ?_⟩
  kernel_rfl
theorem t_markStringS {G : Glob} (xs : List ByteArray) (k : Nat) (hk : k + cntL (fun _ => 1) xs ≤ 1073741824) : FnD PP G 51 [.al 0 false, .val false [.ow (.lit (.int .i64 k))]] [] [(0, [.sl .el 1 (xs.map strR)])]
    [.v false [.ow (.lit (.int .i64 (k + cntL (fun _ => 1) xs : Nat)))]] [] [(0, [.sl .el 1 ((mkL (fun n _ => markB n) (fun _ => 1) k xs).map strR)])] := by
  refine fn_bd fun hbd => ?_
  have hx : xs.length ≤ 281474976710656 := hbd _ (by simp [hdsA, lenT, Cl.tree])
  clear hbd
  obtain ⟨cc, hb, hcf⟩ := code_laws_markStringS
  refine fn_ok (fn := Tryd.f51) (specs := [.t 4]) (by kernel_rfl) hb (by show (20:Nat) ≤ 10000; omega) hcf (by kernel_rfl) (by show (2:Nat) ≤ 20; omega) (by simp) (by simp) rfl rfl (by simp) rfl ?_
  simp only [c_laws_markStringS]
  push_cast
  refine cwp_loop (fun i : Nat => ⟨[(0, .al 0 false), (1, .val false [.ow (.lit (.int .i64 (k + cntL (fun _ => 1) (xs.take i) : Nat)))]), (5, .val false [.ow (.lit (.int .i64 i))]), (16000, .hid [.sl .el 1 ((mkL (fun n _ => markB n) (fun _ => 1) k (xs.take i) ++ xs.drop i).map strR)])], []⟩)
    (fun i => i ≤ xs.length) (fun i => xs.length - i) 0 rfl (by simp [mkL, cntL]; rfl) (by omega) ?_
  intro i hle
  have hlen : (mkL (fun n _ => markB n) (fun _ => 1) k (xs.take i) ++ xs.drop i).length = xs.length := by rw [List.length_append, mkL_len]; simp; omega
  by_cases hi : i < xs.length
  · have e := mark_step strR (fun n _ => markB n) (fun _ => 1) xs k i hi
    have hcl : k + cntL (fun _ => 1) (xs.take (i + 1)) = (k + cntL (fun _ => 1) (xs.take i)) + (fun _ => 1) xs[i] := cnt_step (fun _ => 1) xs k i hi
    have hKb : (k + cntL (fun _ => 1) (xs.take i)) + (fun _ => 1) xs[i] ≤ 1073741824 := Nat.le_trans (cnt_le (fun _ => 1) xs k i hi) hk
    have hB1 : (mkL (fun n _ => markB n) (fun _ => 1) k (xs.take i) ++ xs.drop i).map strR = ((mkL (fun n _ => markB n) (fun _ => 1) k (xs.take i) ++ xs.drop i).map strR).set i (strR xs[i]) := (mark_at strR (fun n _ => markB n) (fun _ => 1) xs k i hi).symm
    rw [hB1]
    generalize k + cntL (fun _ => 1) (xs.take i) = K at hcl hKb e ⊢
    have hB2 : i < ((mkL (fun n _ => markB n) (fun _ => 1) k (xs.take i) ++ xs.drop i).map strR).length := by rw [List.length_map]; omega
    have hlen2 : ((mkL (fun n _ => markB n) (fun _ => 1) k (xs.take i) ++ xs.drop i).map strR).length = xs.length := by rw [List.length_map]; exact hlen
    generalize (mkL (fun n _ => markB n) (fun _ => 1) k (xs.take i) ++ xs.drop i).map strR = B at e hB2 hlen2 ⊢
    clear hB1 hlen
    simp only [strR] at e
    simp only [strR]
    try simp only [Nat.add_zero] at hKb
    push_cast [List.length_set, getD_set_eq hB2, getq_set_eq hB2, set_modify, mkL_len, set2]
    refine cnd_dec (fun hlt => ?_) (fun hge => by omega)
    push_cast [List.length_set, getD_set_eq hB2, getq_set_eq hB2, set_modify, mkL_len, set2]
    try simp (disch := omega) only [wrap64]
    repeat (first | refine And.intro (by omega) ?_ | refine And.intro ⟨by omega, by omega⟩ ?_ | refine And.intro ⟨by omega, by omega, by omega⟩ ?_)
    have hc := t_markText (G := G) K (by omega)
    refine call_ok hc ?_
    clear hc
    push_cast [List.length_set, getD_set_eq hB2, getq_set_eq hB2, set_modify, mkL_len, set2]
    try simp (disch := omega) only [wrap64]
    repeat (first | refine And.intro (by omega) ?_ | refine And.intro ⟨by omega, by omega⟩ ?_ | refine And.intro ⟨by omega, by omega, by omega⟩ ?_)
    refine ⟨i + 1, ?_, by omega, by omega⟩
    have hcl2 := congrArg (fun x : Nat => (x : Int)) hcl
    try simp only [Nat.add_zero, Int.natCast_add, Int.cast_ofNat_Int, Int.natCast_one] at hcl2
    try simp only [Int.natCast_add, Int.cast_ofNat_Int, Int.natCast_one]
    rw [hcl2, e]
    try simp only [Int.add_assoc]
  · have hi : i = xs.length := by omega
    subst hi
    have hl0 : ((mkL (fun n _ => markB n) (fun _ => 1) k (xs.take xs.length) ++ xs.drop xs.length).map strR) = (mkL (fun n _ => markB n) (fun _ => 1) k xs).map strR := by simp
    rw [hl0, List.take_length]
    push_cast
    refine cnd_dec (fun hlt => ?_) (fun hge => ?_)
    · rw [mkL_len] at hlt; omega
    push_cast

noncomputable def c_laws_markRingS : ACode := (.seq (.reg false [⟨none, .tk 4 (.k (.i .i64 0)), []⟩] [0, 1, 16000]) (.seq (.seq (.reg false [⟨none, .asg 5 (.k (.i .i64 0)), []⟩] [0, 1, 5, 16000]) (.block 0 (.loop [0, 1, 5, 16000] (.seq (.seq (.reg false [⟨none, .p 6 (.mv (.t 5)), []⟩, ⟨none, .p 7 (.mv (.t 0)), []⟩, ⟨none, .p 8 (.len false (.t 7)), []⟩, ⟨none, .p 9 (.bin .lss (.t 6) (.t 8)), []⟩] [0, 1, 5, 9, 16000]) (.cond (.t 9) .skip (.exit 0 [1, 16000]))) (.seq (.block 1 (.seq (.reg false [⟨none, .p 12 (.mv (.t 0)), []⟩, ⟨none, .p 13 (.mv (.t 5)), []⟩, ⟨none, .p 14 (.mv (.t 1)), []⟩, ⟨none, .p 15 (.ia (.t 12) (.t 13) 2), []⟩, ⟨none, .p 16 (.fa (.t 15) 0 0), []⟩, ⟨none, .st (.t 16) (.t 14) 1, []⟩] [0, 1, 5, 16000]) (.seq (.reg false [⟨none, .p 17 (.mv (.t 1)), []⟩, ⟨none, .p 18 (.bin .add (.t 17) (.k (.i .i64 1))), []⟩, ⟨none, .asg 1 (.t 18), []⟩] [0, 1, 5, 16000]) (.reg false [⟨none, .p 19 (.mv (.t 0)), []⟩, ⟨none, .p 20 (.mv (.t 5)), []⟩, ⟨none, .p 21 (.ia (.t 19) (.t 20) 2), []⟩, ⟨none, .p 22 (.fa (.t 21) 0 1), []⟩, ⟨none, .p 23 (.ld (.t 22) 0 1 false), []⟩, ⟨none, .p 24 (.mv (.t 1)), []⟩, ⟨none, .call (some 25) 24 [.ln (.t 23), .rd (.t 24)], []⟩, ⟨none, .asg 1 (.t 25), []⟩] [0, 1, 5, 16000])))) (.reg false [⟨none, .p 10 (.mv (.t 5)), []⟩, ⟨none, .p 11 (.bin .add (.t 10) (.k (.i .i64 1))), []⟩, ⟨none, .asg 5 (.t 11), []⟩] [0, 1, 5, 16000])))))) (.seq (.reg false [⟨none, .p 26 (.mv (.t 1)), []⟩, ⟨none, .tk 4 (.t 26), []⟩] [4, 16000]) .ret)))
theorem code_laws_markRingS : ∃ c, Tryd.f10.body = some c ∧ cfit PP 27 c c_laws_markRingS = true := by
  refine ⟨_, (rfl : Tryd.f10.body = some _), ?_⟩
  kernel_rfl
theorem t_markRingS {G : Glob} (xs : List XRing) (k : Nat) (hk : k + cntL XRing.ct xs ≤ 1073741824) : FnD PP G 10 [.al 0 false, .val false [.ow (.lit (.int .i64 k))]] [] [(0, [.sl .el 2 (xs.map XRing.row)])]
    [.v false [.ow (.lit (.int .i64 (k + cntL XRing.ct xs : Nat)))]] [] [(0, [.sl .el 2 ((mkL XRing.mrk XRing.ct k xs).map XRing.row)])] := by
  refine fn_bd fun hbd => ?_
  have hx : xs.length ≤ 281474976710656 := hbd _ (by simp [hdsA, lenT, Cl.tree])
  clear hbd
  obtain ⟨cc, hb, hcf⟩ := code_laws_markRingS
  refine fn_ok (fn := Tryd.f10) (specs := [.t 4]) (by kernel_rfl) hb (by show (27:Nat) ≤ 10000; omega) hcf (by kernel_rfl) (by show (2:Nat) ≤ 27; omega) (by simp) (by simp) rfl rfl (by simp) rfl ?_
  simp only [c_laws_markRingS]
  push_cast
  refine cwp_loop (fun i : Nat => ⟨[(0, .al 0 false), (1, .val false [.ow (.lit (.int .i64 (k + cntL XRing.ct (xs.take i) : Nat)))]), (5, .val false [.ow (.lit (.int .i64 i))]), (16000, .hid [.sl .el 2 ((mkL XRing.mrk XRing.ct k (xs.take i) ++ xs.drop i).map XRing.row)])], []⟩)
    (fun i => i ≤ xs.length) (fun i => xs.length - i) 0 rfl (by simp [mkL, cntL]; rfl) (by omega) ?_
  intro i hle
  have hlen : (mkL XRing.mrk XRing.ct k (xs.take i) ++ xs.drop i).length = xs.length := by rw [List.length_append, mkL_len]; simp; omega
  by_cases hi : i < xs.length
  · have e := mark_step XRing.row XRing.mrk XRing.ct xs k i hi
    have hcl : k + cntL XRing.ct (xs.take (i + 1)) = (k + cntL XRing.ct (xs.take i)) + XRing.ct xs[i] := cnt_step XRing.ct xs k i hi
    have hKb : (k + cntL XRing.ct (xs.take i)) + XRing.ct xs[i] ≤ 1073741824 := Nat.le_trans (cnt_le XRing.ct xs k i hi) hk
    have hB1 : (mkL XRing.mrk XRing.ct k (xs.take i) ++ xs.drop i).map XRing.row = ((mkL XRing.mrk XRing.ct k (xs.take i) ++ xs.drop i).map XRing.row).set i (XRing.row xs[i]) := (mark_at XRing.row XRing.mrk XRing.ct xs k i hi).symm
    rw [hB1]
    generalize k + cntL XRing.ct (xs.take i) = K at hcl hKb e ⊢
    have hB2 : i < ((mkL XRing.mrk XRing.ct k (xs.take i) ++ xs.drop i).map XRing.row).length := by rw [List.length_map]; omega
    have hlen2 : ((mkL XRing.mrk XRing.ct k (xs.take i) ++ xs.drop i).map XRing.row).length = xs.length := by rw [List.length_map]; exact hlen
    generalize (mkL XRing.mrk XRing.ct k (xs.take i) ++ xs.drop i).map XRing.row = B at e hB2 hlen2 ⊢
    clear hB1 hlen
    simp only [XRing.row, XRing.mrk, XRing.ct, Int.natCast_add, Int.cast_ofNat_Int, Int.natCast_one] at e
    simp only [XRing.row]
    try simp only [XRing.ct] at hKb
    push_cast [List.length_set, getD_set_eq hB2, getq_set_eq hB2, set_modify, mkL_len, set2]
    refine cnd_dec (fun hlt => ?_) (fun hge => by omega)
    push_cast [List.length_set, getD_set_eq hB2, getq_set_eq hB2, set_modify, mkL_len, set2]
    try simp (disch := omega) only [wrap64]
    repeat (first | refine And.intro (by omega) ?_ | refine And.intro ⟨by omega, by omega⟩ ?_ | refine And.intro ⟨by omega, by omega, by omega⟩ ?_)
    have hc := t_markIntS (G := G) xs[i].Members (K + 1) (by omega)
    try simp only [Int.natCast_add, Int.cast_ofNat_Int, Int.natCast_one] at hc
    refine call_ok hc ?_
    clear hc
    push_cast [List.length_set, getD_set_eq hB2, getq_set_eq hB2, set_modify, mkL_len, set2]
    try simp (disch := omega) only [wrap64]
    repeat (first | refine And.intro (by omega) ?_ | refine And.intro ⟨by omega, by omega⟩ ?_ | refine And.intro ⟨by omega, by omega, by omega⟩ ?_)
    refine ⟨i + 1, ?_, by omega, by omega⟩
    have hcl2 := congrArg (fun x : Nat => (x : Int)) hcl
    try simp only [XRing.ct, Int.natCast_add, Int.cast_ofNat_Int, Int.natCast_one] at hcl2
    try simp only [Int.natCast_add, Int.cast_ofNat_Int, Int.natCast_one]
    rw [hcl2, e]
    try simp only [Int.add_assoc]
  · have hi : i = xs.length := by omega
    subst hi
    have hl0 : ((mkL XRing.mrk XRing.ct k (xs.take xs.length) ++ xs.drop xs.length).map XRing.row) = (mkL XRing.mrk XRing.ct k xs).map XRing.row := by simp
    rw [hl0, List.take_length]
    push_cast
    refine cnd_dec (fun hlt => ?_) (fun hge => ?_)
    · rw [mkL_len] at hlt; omega
    push_cast

noncomputable def c_laws_markItemS : ACode := (.seq (.reg false [⟨none, .tk 4 (.k (.i .i64 0)), []⟩] [0, 1, 16000]) (.seq (.seq (.reg false [⟨none, .asg 5 (.k (.i .i64 0)), []⟩] [0, 1, 5, 16000]) (.block 0 (.loop [0, 1, 5, 16000] (.seq (.seq (.reg false [⟨none, .p 6 (.mv (.t 5)), []⟩, ⟨none, .p 7 (.mv (.t 0)), []⟩, ⟨none, .p 8 (.len false (.t 7)), []⟩, ⟨none, .p 9 (.bin .lss (.t 6) (.t 8)), []⟩] [0, 1, 5, 9, 16000]) (.cond (.t 9) .skip (.exit 0 [1, 16000]))) (.seq (.block 1 (.seq (.reg false [⟨none, .p 12 (.mv (.t 0)), []⟩, ⟨none, .p 13 (.mv (.t 5)), []⟩, ⟨none, .p 14 (.mv (.t 1)), []⟩, ⟨none, .p 15 (.ia (.t 12) (.t 13) 4), []⟩, ⟨none, .p 16 (.fa (.t 15) 0 0), []⟩, ⟨none, .st (.t 16) (.t 14) 1, []⟩] [0, 1, 5, 16000]) (.seq (.reg false [⟨none, .p 17 (.mv (.t 1)), []⟩, ⟨none, .p 18 (.bin .add (.t 17) (.k (.i .i64 1))), []⟩, ⟨none, .asg 1 (.t 18), []⟩] [0, 1, 5, 16000]) (.seq (.reg false [⟨none, .p 19 (.mv (.t 0)), []⟩, ⟨none, .p 20 (.mv (.t 5)), []⟩, ⟨none, .p 21 (.mv (.t 1)), []⟩, ⟨none, .p 22 (.ia (.t 19) (.t 20) 4), []⟩, ⟨none, .p 23 (.fa (.t 22) 0 1), []⟩, ⟨none, .st (.t 23) (.t 21) 1, []⟩] [0, 1, 5, 16000]) (.seq (.reg false [⟨none, .p 24 (.mv (.t 1)), []⟩, ⟨none, .p 25 (.bin .add (.t 24) (.k (.i .i64 1))), []⟩, ⟨none, .asg 1 (.t 25), []⟩] [0, 1, 5, 16000]) (.seq (.reg false [⟨none, .p 26 (.mv (.t 0)), []⟩, ⟨none, .p 27 (.mv (.t 5)), []⟩, ⟨none, .p 28 (.mv (.t 1)), []⟩, ⟨none, .p 29 (.ia (.t 26) (.t 27) 4), []⟩, ⟨none, .p 30 (.fa (.t 29) 0 2), []⟩, ⟨none, .st (.t 30) (.t 28) 1, []⟩] [0, 1, 5, 16000]) (.seq (.reg false [⟨none, .p 31 (.mv (.t 1)), []⟩, ⟨none, .p 32 (.bin .add (.t 31) (.k (.i .i64 1))), []⟩, ⟨none, .asg 1 (.t 32), []⟩] [0, 1, 5, 16000]) (.seq (.reg false [⟨none, .p 33 (.mv (.t 0)), []⟩, ⟨none, .p 34 (.mv (.t 5)), []⟩, ⟨none, .p 35 (.mv (.t 1)), []⟩, ⟨none, .call (some 36) 50 [.rd (.t 35)], []⟩, ⟨none, .p 37 (.ia (.t 33) (.t 34) 4), []⟩, ⟨none, .p 38 (.fa (.t 37) 0 3), []⟩, ⟨none, .st (.t 38) (.t 36) 1, []⟩] [0, 1, 5, 16000]) (.reg false [⟨none, .p 39 (.mv (.t 1)), []⟩, ⟨none, .p 40 (.bin .add (.t 39) (.k (.i .i64 1))), []⟩, ⟨none, .asg 1 (.t 40), []⟩] [0, 1, 5, 16000]))))))))) (.reg false [⟨none, .p 10 (.mv (.t 5)), []⟩, ⟨none, .p 11 (.bin .add (.t 10) (.k (.i .i64 1))), []⟩, ⟨none, .asg 5 (.t 11), []⟩] [0, 1, 5, 16000])))))) (.seq (.reg false [⟨none, .p 41 (.mv (.t 1)), []⟩, ⟨none, .tk 4 (.t 41), []⟩] [4, 16000]) .ret)))
theorem code_laws_markItemS : ∃ c, Tryd.f74.body = some c ∧ cfit PP 42 c c_laws_markItemS = true := by
  refine ⟨_, (rfl : Tryd.f74.body = some _), ?_⟩
  kernel_rfl
theorem t_markItemS {G : Glob} (xs : List XItem) (k : Nat) (hk : k + cntL XItem.ct xs ≤ 1073741824) : FnD PP G 74 [.al 0 false, .val false [.ow (.lit (.int .i64 k))]] [] [(0, [.sl .el 4 (xs.map XItem.row)])]
    [.v false [.ow (.lit (.int .i64 (k + cntL XItem.ct xs : Nat)))]] [] [(0, [.sl .el 4 ((mkL XItem.mrk XItem.ct k xs).map XItem.row)])] := by
  refine fn_bd fun hbd => ?_
  have hx : xs.length ≤ 281474976710656 := hbd _ (by simp [hdsA, lenT, Cl.tree])
  clear hbd
  obtain ⟨cc, hb, hcf⟩ := code_laws_markItemS
  refine fn_ok (fn := Tryd.f74) (specs := [.t 4]) (by kernel_rfl) hb (by show (42:Nat) ≤ 10000; omega) hcf (by kernel_rfl) (by show (2:Nat) ≤ 42; omega) (by simp) (by simp) rfl rfl (by simp) rfl ?_
  simp only [c_laws_markItemS]
  push_cast
  refine cwp_loop (fun i : Nat => ⟨[(0, .al 0 false), (1, .val false [.ow (.lit (.int .i64 (k + cntL XItem.ct (xs.take i) : Nat)))]), (5, .val false [.ow (.lit (.int .i64 i))]), (16000, .hid [.sl .el 4 ((mkL XItem.mrk XItem.ct k (xs.take i) ++ xs.drop i).map XItem.row)])], []⟩)
    (fun i => i ≤ xs.length) (fun i => xs.length - i) 0 rfl (by simp [mkL, cntL]; rfl) (by omega) ?_
  intro i hle
  have hlen : (mkL XItem.mrk XItem.ct k (xs.take i) ++ xs.drop i).length = xs.length := by rw [List.length_append, mkL_len]; simp; omega
  by_cases hi : i < xs.length
  · have e := mark_step XItem.row XItem.mrk XItem.ct xs k i hi
    have hcl : k + cntL XItem.ct (xs.take (i + 1)) = (k + cntL XItem.ct (xs.take i)) + XItem.ct xs[i] := cnt_step XItem.ct xs k i hi
    have hKb : (k + cntL XItem.ct (xs.take i)) + XItem.ct xs[i] ≤ 1073741824 := Nat.le_trans (cnt_le XItem.ct xs k i hi) hk
    have hB1 : (mkL XItem.mrk XItem.ct k (xs.take i) ++ xs.drop i).map XItem.row = ((mkL XItem.mrk XItem.ct k (xs.take i) ++ xs.drop i).map XItem.row).set i (XItem.row xs[i]) := (mark_at XItem.row XItem.mrk XItem.ct xs k i hi).symm
    rw [hB1]
    generalize k + cntL XItem.ct (xs.take i) = K at hcl hKb e ⊢
    have hB2 : i < ((mkL XItem.mrk XItem.ct k (xs.take i) ++ xs.drop i).map XItem.row).length := by rw [List.length_map]; omega
    have hlen2 : ((mkL XItem.mrk XItem.ct k (xs.take i) ++ xs.drop i).map XItem.row).length = xs.length := by rw [List.length_map]; exact hlen
    generalize (mkL XItem.mrk XItem.ct k (xs.take i) ++ xs.drop i).map XItem.row = B at e hB2 hlen2 ⊢
    clear hB1 hlen
    simp only [XItem.row, XItem.mrk, XItem.ct, Int.natCast_add, Int.cast_ofNat_Int, Int.natCast_one] at e
    simp only [XItem.row]
    try simp only [XItem.ct] at hKb
    push_cast [List.length_set, getD_set_eq hB2, getq_set_eq hB2, set_modify, mkL_len, set2]
    refine cnd_dec (fun hlt => ?_) (fun hge => by omega)
    push_cast [List.length_set, getD_set_eq hB2, getq_set_eq hB2, set_modify, mkL_len, set2]
    try simp (disch := omega) only [wrap64]
    repeat (first | refine And.intro (by omega) ?_ | refine And.intro ⟨by omega, by omega⟩ ?_ | refine And.intro ⟨by omega, by omega, by omega⟩ ?_)
    have hc := t_markText (G := G) (K + 1 + 1 + 1) (by omega)
    try simp only [Int.natCast_add, Int.cast_ofNat_Int, Int.natCast_one] at hc
    refine call_ok hc ?_
    clear hc
    push_cast [List.length_set, getD_set_eq hB2, getq_set_eq hB2, set_modify, mkL_len, set2]
    try simp (disch := omega) only [wrap64]
    repeat (first | refine And.intro (by omega) ?_ | refine And.intro ⟨by omega, by omega⟩ ?_ | refine And.intro ⟨by omega, by omega, by omega⟩ ?_)
    refine ⟨i + 1, ?_, by omega, by omega⟩
    have hcl2 := congrArg (fun x : Nat => (x : Int)) hcl
    try simp only [XItem.ct, Int.natCast_add, Int.cast_ofNat_Int, Int.natCast_one] at hcl2
    try simp only [Int.natCast_add, Int.cast_ofNat_Int, Int.natCast_one]
    rw [hcl2, e]
    try simp only [Int.add_assoc]
  · have hi : i = xs.length := by omega
    subst hi
    have hl0 : ((mkL XItem.mrk XItem.ct k (xs.take xs.length) ++ xs.drop xs.length).map XItem.row) = (mkL XItem.mrk XItem.ct k xs).map XItem.row := by simp
    rw [hl0, List.take_length]
    push_cast
    refine cnd_dec (fun hlt => ?_) (fun hge => ?_)
    · rw [mkL_len] at hlt; omega
    push_cast

noncomputable def c_laws_markBundleS : ACode := (.seq (.reg false [⟨none, .tk 4 (.k (.i .i64 0)), []⟩] [0, 1, 16000]) (.seq (.seq (.reg false [⟨none, .asg 5 (.k (.i .i64 0)), []⟩] [0, 1, 5, 16000]) (.block 0 (.loop [0, 1, 5, 16000] (.seq (.seq (.reg false [⟨none, .p 6 (.mv (.t 5)), []⟩, ⟨none, .p 7 (.mv (.t 0)), []⟩, ⟨none, .p 8 (.len false (.t 7)), []⟩, ⟨none, .p 9 (.bin .lss (.t 6) (.t 8)), []⟩] [0, 1, 5, 9, 16000]) (.cond (.t 9) .skip (.exit 0 [1, 16000]))) (.seq (.block 1 (.seq (.reg false [⟨none, .p 12 (.mv (.t 0)), []⟩, ⟨none, .p 13 (.mv (.t 5)), []⟩, ⟨none, .p 14 (.mv (.t 1)), []⟩, ⟨none, .p 15 (.ia (.t 12) (.t 13) 4), []⟩, ⟨none, .p 16 (.fa (.t 15) 0 0), []⟩, ⟨none, .st (.t 16) (.t 14) 1, []⟩] [0, 1, 5, 16000]) (.seq (.reg false [⟨none, .p 17 (.mv (.t 1)), []⟩, ⟨none, .p 18 (.bin .add (.t 17) (.k (.i .i64 1))), []⟩, ⟨none, .asg 1 (.t 18), []⟩] [0, 1, 5, 16000]) (.seq (.reg false [⟨none, .p 19 (.mv (.t 0)), []⟩, ⟨none, .p 20 (.mv (.t 5)), []⟩, ⟨none, .p 21 (.mv (.t 1)), []⟩, ⟨none, .p 22 (.ia (.t 19) (.t 20) 4), []⟩, ⟨none, .p 23 (.fa (.t 22) 0 1), []⟩, ⟨none, .st (.t 23) (.t 21) 1, []⟩] [0, 1, 5, 16000]) (.seq (.reg false [⟨none, .p 24 (.mv (.t 1)), []⟩, ⟨none, .p 25 (.bin .add (.t 24) (.k (.i .i64 1))), []⟩, ⟨none, .asg 1 (.t 25), []⟩] [0, 1, 5, 16000]) (.seq (.reg false [⟨none, .p 26 (.mv (.t 0)), []⟩, ⟨none, .p 27 (.mv (.t 5)), []⟩, ⟨none, .p 28 (.mv (.t 1)), []⟩, ⟨none, .p 29 (.ia (.t 26) (.t 27) 4), []⟩, ⟨none, .p 30 (.fa (.t 29) 0 2), []⟩, ⟨none, .st (.t 30) (.t 28) 1, []⟩] [0, 1, 5, 16000]) (.seq (.reg false [⟨none, .p 31 (.mv (.t 1)), []⟩, ⟨none, .p 32 (.bin .add (.t 31) (.k (.i .i64 1))), []⟩, ⟨none, .asg 1 (.t 32), []⟩] [0, 1, 5, 16000]) (.reg false [⟨none, .p 33 (.mv (.t 0)), []⟩, ⟨none, .p 34 (.mv (.t 5)), []⟩, ⟨none, .p 35 (.ia (.t 33) (.t 34) 4), []⟩, ⟨none, .p 36 (.fa (.t 35) 0 3), []⟩, ⟨none, .p 37 (.ld (.t 36) 0 1 false), []⟩, ⟨none, .p 38 (.mv (.t 1)), []⟩, ⟨none, .call (some 39) 74 [.ln (.t 37), .rd (.t 38)], []⟩, ⟨none, .asg 1 (.t 39), []⟩] [0, 1, 5, 16000])))))))) (.reg false [⟨none, .p 10 (.mv (.t 5)), []⟩, ⟨none, .p 11 (.bin .add (.t 10) (.k (.i .i64 1))), []⟩, ⟨none, .asg 5 (.t 11), []⟩] [0, 1, 5, 16000])))))) (.seq (.reg false [⟨none, .p 40 (.mv (.t 1)), []⟩, ⟨none, .tk 4 (.t 40), []⟩] [4, 16000]) .ret)))
theorem code_laws_markBundleS : ∃ c, Tryd.f75.body = some c ∧ cfit PP 41 c c_laws_markBundleS = true := by
  refine ⟨_, (rfl : Tryd.f75.body = some _), ?_⟩
  kernel_rfl
theorem t_markBundleS {G : Glob} (xs : List XBundle) (k : Nat) (hk : k + cntL XBundle.ct xs ≤ 1073741824) : FnD PP G 75 [.al 0 false, .val false [.ow (.lit (.int .i64 k))]] [] [(0, [.sl .el 4 (xs.map XBundle.row)])]
    [.v false [.ow (.lit (.int .i64 (k + cntL XBundle.ct xs : Nat)))]] [] [(0, [.sl .el 4 ((mkL XBundle.mrk XBundle.ct k xs).map XBundle.row)])] := by
  refine fn_bd fun hbd => ?_
  have hx : xs.length ≤ 281474976710656 := hbd _ (by simp [hdsA, lenT, Cl.tree])
  clear hbd
  obtain ⟨cc, hb, hcf⟩ := code_laws_markBundleS
  refine fn_ok (fn := Tryd.f75) (specs := [.t 4]) (by kernel_rfl) hb (by show (41:Nat) ≤ 10000; omega) hcf (by kernel_rfl) (by show (2:Nat) ≤ 41; omega) (by simp) (by simp) rfl rfl (by simp) rfl ?_
  simp only [c_laws_markBundleS]
  push_cast
  refine cwp_loop (fun i : Nat => ⟨[(0, .al 0 false), (1, .val false [.ow (.lit (.int .i64 (k + cntL XBundle.ct (xs.take i) : Nat)))]), (5, .val false [.ow (.lit (.int .i64 i))]), (16000, .hid [.sl .el 4 ((mkL XBundle.mrk XBundle.ct k (xs.take i) ++ xs.drop i).map XBundle.row)])], []⟩)
    (fun i => i ≤ xs.length) (fun i => xs.length - i) 0 rfl (by simp [mkL, cntL]; rfl) (by omega) ?_
  intro i hle
  have hlen : (mkL XBundle.mrk XBundle.ct k (xs.take i) ++ xs.drop i).length = xs.length := by rw [List.length_append, mkL_len]; simp; omega
  by_cases hi : i < xs.length
  · have e := mark_step XBundle.row XBundle.mrk XBundle.ct xs k i hi
    have hcl : k + cntL XBundle.ct (xs.take (i + 1)) = (k + cntL XBundle.ct (xs.take i)) + XBundle.ct xs[i] := cnt_step XBundle.ct xs k i hi
    have hKb : (k + cntL XBundle.ct (xs.take i)) + XBundle.ct xs[i] ≤ 1073741824 := Nat.le_trans (cnt_le XBundle.ct xs k i hi) hk
    have hB1 : (mkL XBundle.mrk XBundle.ct k (xs.take i) ++ xs.drop i).map XBundle.row = ((mkL XBundle.mrk XBundle.ct k (xs.take i) ++ xs.drop i).map XBundle.row).set i (XBundle.row xs[i]) := (mark_at XBundle.row XBundle.mrk XBundle.ct xs k i hi).symm
    rw [hB1]
    generalize k + cntL XBundle.ct (xs.take i) = K at hcl hKb e ⊢
    have hB2 : i < ((mkL XBundle.mrk XBundle.ct k (xs.take i) ++ xs.drop i).map XBundle.row).length := by rw [List.length_map]; omega
    have hlen2 : ((mkL XBundle.mrk XBundle.ct k (xs.take i) ++ xs.drop i).map XBundle.row).length = xs.length := by rw [List.length_map]; exact hlen
    generalize (mkL XBundle.mrk XBundle.ct k (xs.take i) ++ xs.drop i).map XBundle.row = B at e hB2 hlen2 ⊢
    clear hB1 hlen
    simp only [XBundle.row, XBundle.mrk, XBundle.ct, Int.natCast_add, Int.cast_ofNat_Int, Int.natCast_one] at e
    simp only [XBundle.row]
    try simp only [XBundle.ct] at hKb
    push_cast [List.length_set, getD_set_eq hB2, getq_set_eq hB2, set_modify, mkL_len, set2]
    refine cnd_dec (fun hlt => ?_) (fun hge => by omega)
    push_cast [List.length_set, getD_set_eq hB2, getq_set_eq hB2, set_modify, mkL_len, set2]
    try simp (disch := omega) only [wrap64]
    repeat (first | refine And.intro (by omega) ?_ | refine And.intro ⟨by omega, by omega⟩ ?_ | refine And.intro ⟨by omega, by omega, by omega⟩ ?_)
    have hc := t_markItemS (G := G) xs[i].Items (K + 1 + 1 + 1) (by omega)
    try simp only [Int.natCast_add, Int.cast_ofNat_Int, Int.natCast_one] at hc
    refine call_ok hc ?_
    clear hc
    push_cast [List.length_set, getD_set_eq hB2, getq_set_eq hB2, set_modify, mkL_len, set2]
    try simp (disch := omega) only [wrap64]
    repeat (first | refine And.intro (by omega) ?_ | refine And.intro ⟨by omega, by omega⟩ ?_ | refine And.intro ⟨by omega, by omega, by omega⟩ ?_)
    refine ⟨i + 1, ?_, by omega, by omega⟩
    have hcl2 := congrArg (fun x : Nat => (x : Int)) hcl
    try simp only [XBundle.ct, Int.natCast_add, Int.cast_ofNat_Int, Int.natCast_one] at hcl2
    try simp only [Int.natCast_add, Int.cast_ofNat_Int, Int.natCast_one]
    rw [hcl2, e]
    try simp only [Int.add_assoc]
  · have hi : i = xs.length := by omega
    subst hi
    have hl0 : ((mkL XBundle.mrk XBundle.ct k (xs.take xs.length) ++ xs.drop xs.length).map XBundle.row) = (mkL XBundle.mrk XBundle.ct k xs).map XBundle.row := by simp
    rw [hl0, List.take_length]
    push_cast
    refine cnd_dec (fun hlt => ?_) (fun hge => ?_)
    · rw [mkL_len] at hlt; omega
    push_cast

noncomputable def c_laws_markEventS : ACode := (.seq (.reg false [⟨none, .tk 4 (.k (.i .i64 0)), []⟩] [0, 1, 16000]) (.seq (.seq (.reg false [⟨none, .asg 5 (.k (.i .i64 0)), []⟩] [0, 1, 5, 16000]) (.block 0 (.loop [0, 1, 5, 16000] (.seq (.seq (.reg false [⟨none, .p 6 (.mv (.t 5)), []⟩, ⟨none, .p 7 (.mv (.t 0)), []⟩, ⟨none, .p 8 (.len false (.t 7)), []⟩, ⟨none, .p 9 (.bin .lss (.t 6) (.t 8)), []⟩] [0, 1, 5, 9, 16000]) (.cond (.t 9) .skip (.exit 0 [1, 16000]))) (.seq (.block 1 (.seq (.reg false [⟨none, .p 12 (.mv (.t 0)), []⟩, ⟨none, .p 13 (.mv (.t 5)), []⟩, ⟨none, .p 14 (.mv (.t 1)), []⟩, ⟨none, .p 15 (.ia (.t 12) (.t 13) 8), []⟩, ⟨none, .p 16 (.fa (.t 15) 0 0), []⟩, ⟨none, .st (.t 16) (.t 14) 1, []⟩] [0, 1, 5, 16000]) (.seq (.reg false [⟨none, .p 17 (.mv (.t 1)), []⟩, ⟨none, .p 18 (.bin .add (.t 17) (.k (.i .i64 1))), []⟩, ⟨none, .asg 1 (.t 18), []⟩] [0, 1, 5, 16000]) (.seq (.reg false [⟨none, .p 19 (.mv (.t 0)), []⟩, ⟨none, .p 20 (.mv (.t 5)), []⟩, ⟨none, .p 21 (.mv (.t 1)), []⟩, ⟨none, .p 22 (.ia (.t 19) (.t 20) 8), []⟩, ⟨none, .p 23 (.fa (.t 22) 0 1), []⟩, ⟨none, .p 24 (.fa (.t 23) 0 0), []⟩, ⟨none, .st (.t 24) (.t 21) 1, []⟩] [0, 1, 5, 16000]) (.seq (.reg false [⟨none, .p 25 (.mv (.t 1)), []⟩, ⟨none, .p 26 (.bin .add (.t 25) (.k (.i .i64 1))), []⟩, ⟨none, .asg 1 (.t 26), []⟩] [0, 1, 5, 16000]) (.seq (.reg false [⟨none, .p 27 (.mv (.t 0)), []⟩, ⟨none, .p 28 (.mv (.t 5)), []⟩, ⟨none, .p 29 (.ia (.t 27) (.t 28) 8), []⟩, ⟨none, .p 30 (.fa (.t 29) 0 1), []⟩, ⟨none, .p 31 (.fa (.t 30) 0 1), []⟩, ⟨none, .p 32 (.ld (.t 31) 0 1 false), []⟩, ⟨none, .p 33 (.mv (.t 1)), []⟩, ⟨none, .call (some 34) 24 [.ln (.t 32), .rd (.t 33)], []⟩, ⟨none, .asg 1 (.t 34), []⟩] [0, 1, 5, 16000]) (.seq (.reg false [⟨none, .p 35 (.mv (.t 0)), []⟩, ⟨none, .p 36 (.mv (.t 5)), []⟩, ⟨none, .p 37 (.mv (.t 1)), []⟩, ⟨none, .p 38 (.ia (.t 35) (.t 36) 8), []⟩, ⟨none, .p 39 (.fa (.t 38) 0 3), []⟩, ⟨none, .p 40 (.fa (.t 39) 0 0), []⟩, ⟨none, .st (.t 40) (.t 37) 1, []⟩] [0, 1, 5, 16000]) (.seq (.reg false [⟨none, .p 41 (.mv (.t 1)), []⟩, ⟨none, .p 42 (.bin .add (.t 41) (.k (.i .i64 1))), []⟩, ⟨none, .asg 1 (.t 42), []⟩] [0, 1, 5, 16000]) (.seq (.reg false [⟨none, .p 43 (.mv (.t 0)), []⟩, ⟨none, .p 44 (.mv (.t 5)), []⟩, ⟨none, .p 45 (.mv (.t 1)), []⟩, ⟨none, .p 46 (.ia (.t 43) (.t 44) 8), []⟩, ⟨none, .p 47 (.fa (.t 46) 0 3), []⟩, ⟨none, .p 48 (.fa (.t 47) 0 1), []⟩, ⟨none, .st (.t 48) (.t 45) 1, []⟩] [0, 1, 5, 16000]) (.seq (.reg false [⟨none, .p 49 (.mv (.t 1)), []⟩, ⟨none, .p 50 (.bin .add (.t 49) (.k (.i .i64 1))), []⟩, ⟨none, .asg 1 (.t 50), []⟩] [0, 1, 5, 16000]) (.seq (.reg false [⟨none, .p 51 (.mv (.t 0)), []⟩, ⟨none, .p 52 (.mv (.t 5)), []⟩, ⟨none, .p 53 (.mv (.t 1)), []⟩, ⟨none, .p 54 (.ia (.t 51) (.t 52) 8), []⟩, ⟨none, .p 55 (.fa (.t 54) 0 3), []⟩, ⟨none, .p 56 (.fa (.t 55) 0 2), []⟩, ⟨none, .st (.t 56) (.t 53) 1, []⟩] [0, 1, 5, 16000]) (.seq (.reg false [⟨none, .p 57 (.mv (.t 1)), []⟩, ⟨none, .p 58 (.bin .add (.t 57) (.k (.i .i64 1))), []⟩, ⟨none, .asg 1 (.t 58), []⟩] [0, 1, 5, 16000]) (.seq (.reg false [⟨none, .p 59 (.mv (.t 0)), []⟩, ⟨none, .p 60 (.mv (.t 5)), []⟩, ⟨none, .p 61 (.mv (.t 1)), []⟩, ⟨none, .call (some 62) 50 [.rd (.t 61)], []⟩, ⟨none, .p 63 (.ia (.t 59) (.t 60) 8), []⟩, ⟨none, .p 64 (.fa (.t 63) 0 3), []⟩, ⟨none, .p 65 (.fa (.t 64) 0 3), []⟩, ⟨none, .st (.t 65) (.t 62) 1, []⟩] [0, 1, 5, 16000]) (.seq (.reg false [⟨none, .p 66 (.mv (.t 1)), []⟩, ⟨none, .p 67 (.bin .add (.t 66) (.k (.i .i64 1))), []⟩, ⟨none, .asg 1 (.t 67), []⟩] [0, 1, 5, 16000]) (.reg false [⟨none, .p 68 (.mv (.t 0)), []⟩, ⟨none, .p 69 (.mv (.t 5)), []⟩, ⟨none, .p 70 (.ia (.t 68) (.t 69) 8), []⟩, ⟨none, .p 71 (.fa (.t 70) 0 7), []⟩, ⟨none, .p 72 (.ld (.t 71) 0 1 false), []⟩, ⟨none, .p 73 (.mv (.t 1)), []⟩, ⟨none, .call (some 74) 24 [.ln (.t 72), .rd (.t 73)], []⟩, ⟨none, .asg 1 (.t 74), []⟩] [0, 1, 5, 16000]))))))))))))))) (.reg false [⟨none, .p 10 (.mv (.t 5)), []⟩, ⟨none, .p 11 (.bin .add (.t 10) (.k (.i .i64 1))), []⟩, ⟨none, .asg 5 (.t 11), []⟩] [0, 1, 5, 16000])))))) (.seq (.reg false [⟨none, .p 75 (.mv (.t 1)), []⟩, ⟨none, .tk 4 (.t 75), []⟩] [4, 16000]) .ret)))
theorem code_laws_markEventS : ∃ c, Tryd.f49.body = some c ∧ cfit PP 76 c c_laws_markEventS = true := by
  refine ⟨_, (rfl : Tryd.f49.body = some _), ?_⟩
  kernel_rfl
theorem t_markEventS {G : Glob} (xs : List XEvent) (k : Nat) (hk : k + cntL XEvent.ct xs ≤ 1073741824) : FnD PP G 49 [.al 0 false, .val false [.ow (.lit (.int .i64 k))]] [] [(0, [.sl .el 8 (xs.map XEvent.row)])]
    [.v false [.ow (.lit (.int .i64 (k + cntL XEvent.ct xs : Nat)))]] [] [(0, [.sl .el 8 ((mkL XEvent.mrk XEvent.ct k xs).map XEvent.row)])] := by
  refine fn_bd fun hbd => ?_
  have hx : xs.length ≤ 281474976710656 := hbd _ (by simp [hdsA, lenT, Cl.tree])
  clear hbd
  obtain ⟨cc, hb, hcf⟩ := code_laws_markEventS
  refine fn_ok (fn := Tryd.f49) (specs := [.t 4]) (by kernel_rfl) hb (by show (76:Nat) ≤ 10000; omega) hcf (by kernel_rfl) (by show (2:Nat) ≤ 76; omega) (by simp) (by simp) rfl rfl (by simp) rfl ?_
  simp only [c_laws_markEventS]
  push_cast
  refine cwp_loop (fun i : Nat => ⟨[(0, .al 0 false), (1, .val false [.ow (.lit (.int .i64 (k + cntL XEvent.ct (xs.take i) : Nat)))]), (5, .val false [.ow (.lit (.int .i64 i))]), (16000, .hid [.sl .el 8 ((mkL XEvent.mrk XEvent.ct k (xs.take i) ++ xs.drop i).map XEvent.row)])], []⟩)
    (fun i => i ≤ xs.length) (fun i => xs.length - i) 0 rfl (by simp [mkL, cntL]; rfl) (by omega) ?_
  intro i hle
  have hlen : (mkL XEvent.mrk XEvent.ct k (xs.take i) ++ xs.drop i).length = xs.length := by rw [List.length_append, mkL_len]; simp; omega
  by_cases hi : i < xs.length
  · have e := mark_step XEvent.row XEvent.mrk XEvent.ct xs k i hi
    have hcl : k + cntL XEvent.ct (xs.take (i + 1)) = (k + cntL XEvent.ct (xs.take i)) + XEvent.ct xs[i] := cnt_step XEvent.ct xs k i hi
    have hKb : (k + cntL XEvent.ct (xs.take i)) + XEvent.ct xs[i] ≤ 1073741824 := Nat.le_trans (cnt_le XEvent.ct xs k i hi) hk
    have hB1 : (mkL XEvent.mrk XEvent.ct k (xs.take i) ++ xs.drop i).map XEvent.row = ((mkL XEvent.mrk XEvent.ct k (xs.take i) ++ xs.drop i).map XEvent.row).set i (XEvent.row xs[i]) := (mark_at XEvent.row XEvent.mrk XEvent.ct xs k i hi).symm
    rw [hB1]
    generalize k + cntL XEvent.ct (xs.take i) = K at hcl hKb e ⊢
    have hB2 : i < ((mkL XEvent.mrk XEvent.ct k (xs.take i) ++ xs.drop i).map XEvent.row).length := by rw [List.length_map]; omega
    have hlen2 : ((mkL XEvent.mrk XEvent.ct k (xs.take i) ++ xs.drop i).map XEvent.row).length = xs.length := by rw [List.length_map]; exact hlen
    generalize (mkL XEvent.mrk XEvent.ct k (xs.take i) ++ xs.drop i).map XEvent.row = B at e hB2 hlen2 ⊢
    clear hB1 hlen
    simp only [XEvent.row, XEvent.mrk, XEvent.ct, Int.natCast_add, Int.cast_ofNat_Int, Int.natCast_one] at e
    simp only [XEvent.row]
    try simp only [XEvent.ct] at hKb
    push_cast [List.length_set, getD_set_eq hB2, getq_set_eq hB2, set_modify, mkL_len, set2]
    refine cnd_dec (fun hlt => ?_) (fun hge => by omega)
    push_cast [List.length_set, getD_set_eq hB2, getq_set_eq hB2, set_modify, mkL_len, set2]
    try simp (disch := omega) only [wrap64]
    repeat (first | refine And.intro (by omega) ?_ | refine And.intro ⟨by omega, by omega⟩ ?_ | refine And.intro ⟨by omega, by omega, by omega⟩ ?_)
    have hc := t_markIntS (G := G) xs[i].Ring.Members (K + 1 + 1) (by omega)
    try simp only [Int.natCast_add, Int.cast_ofNat_Int, Int.natCast_one] at hc
    refine call_ok hc ?_
    clear hc
    push_cast [List.length_set, getD_set_eq hB2, getq_set_eq hB2, set_modify, mkL_len, set2]
    try simp (disch := omega) only [wrap64]
    repeat (first | refine And.intro (by omega) ?_ | refine And.intro ⟨by omega, by omega⟩ ?_ | refine And.intro ⟨by omega, by omega, by omega⟩ ?_)
    have hc := t_markText (G := G) (K + 1 + 1 + cntL (fun _ => 1) xs[i].Ring.Members + 1 + 1 + 1) (by omega)
    try simp only [Int.natCast_add, Int.cast_ofNat_Int, Int.natCast_one] at hc
    refine call_ok hc ?_
    clear hc
    push_cast [List.length_set, getD_set_eq hB2, getq_set_eq hB2, set_modify, mkL_len, set2]
    try simp (disch := omega) only [wrap64]
    repeat (first | refine And.intro (by omega) ?_ | refine And.intro ⟨by omega, by omega⟩ ?_ | refine And.intro ⟨by omega, by omega, by omega⟩ ?_)
    have hc := t_markIntS (G := G) xs[i].With (K + 1 + 1 + cntL (fun _ => 1) xs[i].Ring.Members + 1 + 1 + 1 + 1) (by omega)
    try simp only [Int.natCast_add, Int.cast_ofNat_Int, Int.natCast_one] at hc
    refine call_ok hc ?_
    clear hc
    push_cast [List.length_set, getD_set_eq hB2, getq_set_eq hB2, set_modify, mkL_len, set2]
    try simp (disch := omega) only [wrap64]
    repeat (first | refine And.intro (by omega) ?_ | refine And.intro ⟨by omega, by omega⟩ ?_ | refine And.intro ⟨by omega, by omega, by omega⟩ ?_)
    refine ⟨i + 1, ?_, by omega, by omega⟩
    have hcl2 := congrArg (fun x : Nat => (x : Int)) hcl
    try simp only [XEvent.ct, Int.natCast_add, Int.cast_ofNat_Int, Int.natCast_one] at hcl2
    try simp only [Int.natCast_add, Int.cast_ofNat_Int, Int.natCast_one]
    rw [hcl2, e]
    try simp only [Int.add_assoc]
  · have hi : i = xs.length := by omega
    subst hi
    have hl0 : ((mkL XEvent.mrk XEvent.ct k (xs.take xs.length) ++ xs.drop xs.length).map XEvent.row) = (mkL XEvent.mrk XEvent.ct k xs).map XEvent.row := by simp
    rw [hl0, List.take_length]
    push_cast
    refine cnd_dec (fun hlt => ?_) (fun hge => ?_)
    · rw [mkL_len] at hlt; omega
    push_cast

noncomputable def c_laws_markDaemonS : ACode := (.seq (.reg false [⟨none, .tk 4 (.k (.i .i64 0)), []⟩] [0, 1, 16000]) (.seq (.seq (.reg false [⟨none, .asg 5 (.k (.i .i64 0)), []⟩] [0, 1, 5, 16000]) (.block 0 (.loop [0, 1, 5, 16000] (.seq (.seq (.reg false [⟨none, .p 6 (.mv (.t 5)), []⟩, ⟨none, .p 7 (.mv (.t 0)), []⟩, ⟨none, .p 8 (.len false (.t 7)), []⟩, ⟨none, .p 9 (.bin .lss (.t 6) (.t 8)), []⟩] [0, 1, 5, 9, 16000]) (.cond (.t 9) .skip (.exit 0 [1, 16000]))) (.seq (.block 1 (.seq (.reg false [⟨none, .p 12 (.mv (.t 0)), []⟩, ⟨none, .p 13 (.mv (.t 5)), []⟩, ⟨none, .p 14 (.mv (.t 1)), []⟩, ⟨none, .p 15 (.ia (.t 12) (.t 13) 24), []⟩, ⟨none, .p 16 (.fa (.t 15) 0 0), []⟩, ⟨none, .st (.t 16) (.t 14) 1, []⟩] [0, 1, 5, 16000]) (.seq (.reg false [⟨none, .p 17 (.mv (.t 1)), []⟩, ⟨none, .p 18 (.bin .add (.t 17) (.k (.i .i64 1))), []⟩, ⟨none, .asg 1 (.t 18), []⟩] [0, 1, 5, 16000]) (.seq (.reg false [⟨none, .p 19 (.mv (.t 0)), []⟩, ⟨none, .p 20 (.mv (.t 5)), []⟩, ⟨none, .p 21 (.mv (.t 1)), []⟩, ⟨none, .p 22 (.bin .rem (.t 21) (.k (.i .i64 3))), []⟩, ⟨none, .p 23 (.bin .eql (.t 22) (.k (.i .i64 0))), []⟩, ⟨none, .p 24 (.ia (.t 19) (.t 20) 24), []⟩, ⟨none, .p 25 (.fa (.t 24) 0 1), []⟩, ⟨none, .st (.t 25) (.t 23) 1, []⟩] [0, 1, 5, 16000]) (.seq (.reg false [⟨none, .p 26 (.mv (.t 1)), []⟩, ⟨none, .p 27 (.bin .add (.t 26) (.k (.i .i64 1))), []⟩, ⟨none, .asg 1 (.t 27), []⟩] [0, 1, 5, 16000]) (.seq (.reg false [⟨none, .p 28 (.mv (.t 0)), []⟩, ⟨none, .p 29 (.mv (.t 5)), []⟩, ⟨none, .p 30 (.mv (.t 1)), []⟩, ⟨none, .p 31 (.ia (.t 28) (.t 29) 24), []⟩, ⟨none, .p 32 (.fa (.t 31) 0 2), []⟩, ⟨none, .p 33 (.fa (.t 32) 0 0), []⟩, ⟨none, .st (.t 33) (.t 30) 1, []⟩] [0, 1, 5, 16000]) (.seq (.reg false [⟨none, .p 34 (.mv (.t 1)), []⟩, ⟨none, .p 35 (.bin .add (.t 34) (.k (.i .i64 1))), []⟩, ⟨none, .asg 1 (.t 35), []⟩] [0, 1, 5, 16000]) (.seq (.reg false [⟨none, .p 36 (.mv (.t 0)), []⟩, ⟨none, .p 37 (.mv (.t 5)), []⟩, ⟨none, .p 38 (.mv (.t 1)), []⟩, ⟨none, .p 39 (.ia (.t 36) (.t 37) 24), []⟩, ⟨none, .p 40 (.fa (.t 39) 0 2), []⟩, ⟨none, .p 41 (.fa (.t 40) 0 1), []⟩, ⟨none, .p 42 (.fa (.t 41) 0 0), []⟩, ⟨none, .st (.t 42) (.t 38) 1, []⟩] [0, 1, 5, 16000]) (.seq (.reg false [⟨none, .p 43 (.mv (.t 1)), []⟩, ⟨none, .p 44 (.bin .add (.t 43) (.k (.i .i64 1))), []⟩, ⟨none, .asg 1 (.t 44), []⟩] [0, 1, 5, 16000]) (.seq (.reg false [⟨none, .p 45 (.mv (.t 0)), []⟩, ⟨none, .p 46 (.mv (.t 5)), []⟩, ⟨none, .p 47 (.ia (.t 45) (.t 46) 24), []⟩, ⟨none, .p 48 (.fa (.t 47) 0 2), []⟩, ⟨none, .p 49 (.fa (.t 48) 0 1), []⟩, ⟨none, .p 50 (.fa (.t 49) 0 1), []⟩, ⟨none, .p 51 (.ld (.t 50) 0 1 false), []⟩, ⟨none, .p 52 (.mv (.t 1)), []⟩, ⟨none, .call (some 53) 24 [.ln (.t 51), .rd (.t 52)], []⟩, ⟨none, .asg 1 (.t 53), []⟩] [0, 1, 5, 16000]) (.seq (.reg false [⟨none, .p 54 (.mv (.t 0)), []⟩, ⟨none, .p 55 (.mv (.t 5)), []⟩, ⟨none, .p 56 (.ia (.t 54) (.t 55) 24), []⟩, ⟨none, .p 57 (.fa (.t 56) 0 2), []⟩, ⟨none, .p 58 (.fa (.t 57) 0 3), []⟩, ⟨none, .p 59 (.ld (.t 58) 0 1 false), []⟩, ⟨none, .p 60 (.mv (.t 1)), []⟩, ⟨none, .call (some 61) 74 [.ln (.t 59), .rd (.t 60)], []⟩, ⟨none, .asg 1 (.t 61), []⟩] [0, 1, 5, 16000]) (.seq (.reg false [⟨none, .p 62 (.mv (.t 0)), []⟩, ⟨none, .p 63 (.mv (.t 5)), []⟩, ⟨none, .p 64 (.ia (.t 62) (.t 63) 24), []⟩, ⟨none, .p 65 (.fa (.t 64) 0 2), []⟩, ⟨none, .p 66 (.fa (.t 65) 0 4), []⟩, ⟨none, .p 67 (.ld (.t 66) 0 1 false), []⟩, ⟨none, .p 68 (.mv (.t 1)), []⟩, ⟨none, .call (some 69) 24 [.ln (.t 67), .rd (.t 68)], []⟩, ⟨none, .asg 1 (.t 69), []⟩] [0, 1, 5, 16000]) (.seq (.reg false [⟨none, .p 70 (.mv (.t 0)), []⟩, ⟨none, .p 71 (.mv (.t 5)), []⟩, ⟨none, .p 72 (.ia (.t 70) (.t 71) 24), []⟩, ⟨none, .p 73 (.fa (.t 72) 0 2), []⟩, ⟨none, .p 74 (.fa (.t 73) 0 5), []⟩, ⟨none, .p 75 (.ld (.t 74) 0 1 false), []⟩, ⟨none, .p 76 (.mv (.t 1)), []⟩, ⟨none, .call (some 77) 51 [.ln (.t 75), .rd (.t 76)], []⟩, ⟨none, .asg 1 (.t 77), []⟩] [0, 1, 5, 16000]) (.seq (.reg false [⟨none, .p 78 (.mv (.t 0)), []⟩, ⟨none, .p 79 (.mv (.t 5)), []⟩, ⟨none, .p 80 (.mv (.t 1)), []⟩, ⟨none, .p 81 (.ia (.t 78) (.t 79) 24), []⟩, ⟨none, .p 82 (.fa (.t 81) 0 2), []⟩, ⟨none, .p 83 (.fa (.t 82) 0 6), []⟩, ⟨none, .st (.t 83) (.t 80) 1, []⟩] [0, 1, 5, 16000]) (.seq (.reg false [⟨none, .p 84 (.mv (.t 1)), []⟩, ⟨none, .p 85 (.bin .add (.t 84) (.k (.i .i64 1))), []⟩, ⟨none, .asg 1 (.t 85), []⟩] [0, 1, 5, 16000]) (.seq (.reg false [⟨none, .p 86 (.mv (.t 0)), []⟩, ⟨none, .p 87 (.mv (.t 5)), []⟩, ⟨none, .p 88 (.mv (.t 1)), []⟩, ⟨none, .p 89 (.ia (.t 86) (.t 87) 24), []⟩, ⟨none, .p 90 (.fa (.t 89) 0 2), []⟩, ⟨none, .p 91 (.fa (.t 90) 0 7), []⟩, ⟨none, .st (.t 91) (.t 88) 1, []⟩] [0, 1, 5, 16000]) (.seq (.reg false [⟨none, .p 92 (.mv (.t 1)), []⟩, ⟨none, .p 93 (.bin .add (.t 92) (.k (.i .i64 1))), []⟩, ⟨none, .asg 1 (.t 93), []⟩] [0, 1, 5, 16000]) (.seq (.reg false [⟨none, .p 94 (.mv (.t 0)), []⟩, ⟨none, .p 95 (.mv (.t 5)), []⟩, ⟨none, .p 96 (.mv (.t 1)), []⟩, ⟨none, .p 97 (.ia (.t 94) (.t 95) 24), []⟩, ⟨none, .p 98 (.fa (.t 97) 0 2), []⟩, ⟨none, .p 99 (.fa (.t 98) 0 8), []⟩, ⟨none, .st (.t 99) (.t 96) 1, []⟩] [0, 1, 5, 16000]) (.seq (.reg false [⟨none, .p 100 (.mv (.t 1)), []⟩, ⟨none, .p 101 (.bin .add (.t 100) (.k (.i .i64 1))), []⟩, ⟨none, .asg 1 (.t 101), []⟩] [0, 1, 5, 16000]) (.seq (.reg false [⟨none, .p 102 (.mv (.t 0)), []⟩, ⟨none, .p 103 (.mv (.t 5)), []⟩, ⟨none, .p 104 (.mv (.t 1)), []⟩, ⟨none, .p 105 (.ia (.t 102) (.t 103) 24), []⟩, ⟨none, .p 106 (.fa (.t 105) 0 2), []⟩, ⟨none, .p 107 (.fa (.t 106) 0 9), []⟩, ⟨none, .st (.t 107) (.t 104) 1, []⟩] [0, 1, 5, 16000]) (.seq (.reg false [⟨none, .p 108 (.mv (.t 1)), []⟩, ⟨none, .p 109 (.bin .add (.t 108) (.k (.i .i64 1))), []⟩, ⟨none, .asg 1 (.t 109), []⟩] [0, 1, 5, 16000]) (.seq (.reg false [⟨none, .p 110 (.mv (.t 0)), []⟩, ⟨none, .p 111 (.mv (.t 5)), []⟩, ⟨none, .p 112 (.mv (.t 1)), []⟩, ⟨none, .p 113 (.ia (.t 110) (.t 111) 24), []⟩, ⟨none, .p 114 (.fa (.t 113) 0 2), []⟩, ⟨none, .p 115 (.fa (.t 114) 0 10), []⟩, ⟨none, .p 116 (.fa (.t 115) 0 0), []⟩, ⟨none, .st (.t 116) (.t 112) 1, []⟩] [0, 1, 5, 16000]) (.seq (.reg false [⟨none, .p 117 (.mv (.t 1)), []⟩, ⟨none, .p 118 (.bin .add (.t 117) (.k (.i .i64 1))), []⟩, ⟨none, .asg 1 (.t 118), []⟩] [0, 1, 5, 16000]) (.seq (.reg false [⟨none, .p 119 (.mv (.t 0)), []⟩, ⟨none, .p 120 (.mv (.t 5)), []⟩, ⟨none, .p 121 (.mv (.t 1)), []⟩, ⟨none, .p 122 (.ia (.t 119) (.t 120) 24), []⟩, ⟨none, .p 123 (.fa (.t 122) 0 2), []⟩, ⟨none, .p 124 (.fa (.t 123) 0 10), []⟩, ⟨none, .p 125 (.fa (.t 124) 0 1), []⟩, ⟨none, .st (.t 125) (.t 121) 1, []⟩] [0, 1, 5, 16000]) (.seq (.reg false [⟨none, .p 126 (.mv (.t 1)), []⟩, ⟨none, .p 127 (.bin .add (.t 126) (.k (.i .i64 1))), []⟩, ⟨none, .asg 1 (.t 127), []⟩] [0, 1, 5, 16000]) (.seq (.reg false [⟨none, .p 128 (.mv (.t 0)), []⟩, ⟨none, .p 129 (.mv (.t 5)), []⟩, ⟨none, .p 130 (.mv (.t 1)), []⟩, ⟨none, .p 131 (.ia (.t 128) (.t 129) 24), []⟩, ⟨none, .p 132 (.fa (.t 131) 0 2), []⟩, ⟨none, .p 133 (.fa (.t 132) 0 10), []⟩, ⟨none, .p 134 (.fa (.t 133) 0 2), []⟩, ⟨none, .st (.t 134) (.t 130) 1, []⟩] [0, 1, 5, 16000]) (.seq (.reg false [⟨none, .p 135 (.mv (.t 1)), []⟩, ⟨none, .p 136 (.bin .add (.t 135) (.k (.i .i64 1))), []⟩, ⟨none, .asg 1 (.t 136), []⟩] [0, 1, 5, 16000]) (.seq (.reg false [⟨none, .p 137 (.mv (.t 0)), []⟩, ⟨none, .p 138 (.mv (.t 5)), []⟩, ⟨none, .p 139 (.mv (.t 1)), []⟩, ⟨none, .p 140 (.ia (.t 137) (.t 138) 24), []⟩, ⟨none, .p 141 (.fa (.t 140) 0 2), []⟩, ⟨none, .p 142 (.fa (.t 141) 0 10), []⟩, ⟨none, .p 143 (.fa (.t 142) 0 3), []⟩, ⟨none, .st (.t 143) (.t 139) 1, []⟩] [0, 1, 5, 16000]) (.seq (.reg false [⟨none, .p 144 (.mv (.t 1)), []⟩, ⟨none, .p 145 (.bin .add (.t 144) (.k (.i .i64 1))), []⟩, ⟨none, .asg 1 (.t 145), []⟩] [0, 1, 5, 16000]) (.seq (.reg false [⟨none, .p 146 (.mv (.t 0)), []⟩, ⟨none, .p 147 (.mv (.t 5)), []⟩, ⟨none, .p 148 (.mv (.t 1)), []⟩, ⟨none, .p 149 (.ia (.t 146) (.t 147) 24), []⟩, ⟨none, .p 150 (.fa (.t 149) 0 2), []⟩, ⟨none, .p 151 (.fa (.t 150) 0 10), []⟩, ⟨none, .p 152 (.fa (.t 151) 0 4), []⟩, ⟨none, .st (.t 152) (.t 148) 1, []⟩] [0, 1, 5, 16000]) (.seq (.reg false [⟨none, .p 153 (.mv (.t 1)), []⟩, ⟨none, .p 154 (.bin .add (.t 153) (.k (.i .i64 1))), []⟩, ⟨none, .asg 1 (.t 154), []⟩] [0, 1, 5, 16000]) (.seq (.reg false [⟨none, .p 155 (.mv (.t 0)), []⟩, ⟨none, .p 156 (.mv (.t 5)), []⟩, ⟨none, .p 157 (.ia (.t 155) (.t 156) 24), []⟩, ⟨none, .p 158 (.fa (.t 157) 0 2), []⟩, ⟨none, .p 159 (.fa (.t 158) 0 10), []⟩, ⟨none, .p 160 (.fa (.t 159) 0 5), []⟩, ⟨none, .p 161 (.ld (.t 160) 0 1 false), []⟩, ⟨none, .p 162 (.mv (.t 1)), []⟩, ⟨none, .call (some 163) 24 [.ln (.t 161), .rd (.t 162)], []⟩, ⟨none, .asg 1 (.t 163), []⟩] [0, 1, 5, 16000]) (.seq (.reg false [⟨none, .p 164 (.mv (.t 0)), []⟩, ⟨none, .p 165 (.mv (.t 5)), []⟩, ⟨none, .p 166 (.mv (.t 1)), []⟩, ⟨none, .p 167 (.ia (.t 164) (.t 165) 24), []⟩, ⟨none, .p 168 (.fa (.t 167) 0 18), []⟩, ⟨none, .st (.t 168) (.t 166) 1, []⟩] [0, 1, 5, 16000]) (.seq (.reg false [⟨none, .p 169 (.mv (.t 1)), []⟩, ⟨none, .p 170 (.bin .add (.t 169) (.k (.i .i64 1))), []⟩, ⟨none, .asg 1 (.t 170), []⟩] [0, 1, 5, 16000]) (.seq (.reg false [⟨none, .p 171 (.mv (.t 0)), []⟩, ⟨none, .p 172 (.mv (.t 5)), []⟩, ⟨none, .p 173 (.mv (.t 1)), []⟩, ⟨none, .p 174 (.ia (.t 171) (.t 172) 24), []⟩, ⟨none, .p 175 (.fa (.t 174) 0 19), []⟩, ⟨none, .st (.t 175) (.t 173) 1, []⟩] [0, 1, 5, 16000]) (.seq (.reg false [⟨none, .p 176 (.mv (.t 1)), []⟩, ⟨none, .p 177 (.bin .add (.t 176) (.k (.i .i64 1))), []⟩, ⟨none, .asg 1 (.t 177), []⟩] [0, 1, 5, 16000]) (.seq (.reg false [⟨none, .p 178 (.mv (.t 0)), []⟩, ⟨none, .p 179 (.mv (.t 5)), []⟩, ⟨none, .p 180 (.mv (.t 1)), []⟩, ⟨none, .p 181 (.ia (.t 178) (.t 179) 24), []⟩, ⟨none, .p 182 (.fa (.t 181) 0 20), []⟩, ⟨none, .p 183 (.fa (.t 182) 0 0), []⟩, ⟨none, .st (.t 183) (.t 180) 1, []⟩] [0, 1, 5, 16000]) (.seq (.reg false [⟨none, .p 184 (.mv (.t 1)), []⟩, ⟨none, .p 185 (.bin .add (.t 184) (.k (.i .i64 1))), []⟩, ⟨none, .asg 1 (.t 185), []⟩] [0, 1, 5, 16000]) (.seq (.reg false [⟨none, .p 186 (.mv (.t 0)), []⟩, ⟨none, .p 187 (.mv (.t 5)), []⟩, ⟨none, .p 188 (.ia (.t 186) (.t 187) 24), []⟩, ⟨none, .p 189 (.fa (.t 188) 0 20), []⟩, ⟨none, .p 190 (.fa (.t 189) 0 1), []⟩, ⟨none, .p 191 (.ld (.t 190) 0 1 false), []⟩, ⟨none, .p 192 (.mv (.t 1)), []⟩, ⟨none, .call (some 193) 24 [.ln (.t 191), .rd (.t 192)], []⟩, ⟨none, .asg 1 (.t 193), []⟩] [0, 1, 5, 16000]) (.seq (.reg false [⟨none, .p 194 (.mv (.t 0)), []⟩, ⟨none, .p 195 (.mv (.t 5)), []⟩, ⟨none, .p 196 (.ia (.t 194) (.t 195) 24), []⟩, ⟨none, .p 197 (.fa (.t 196) 0 22), []⟩, ⟨none, .p 198 (.ld (.t 197) 0 1 false), []⟩, ⟨none, .p 199 (.mv (.t 1)), []⟩, ⟨none, .call (some 200) 75 [.ln (.t 198), .rd (.t 199)], []⟩, ⟨none, .asg 1 (.t 200), []⟩] [0, 1, 5, 16000]) (.reg false [⟨none, .p 201 (.mv (.t 0)), []⟩, ⟨none, .p 202 (.mv (.t 5)), []⟩, ⟨none, .p 203 (.ia (.t 201) (.t 202) 24), []⟩, ⟨none, .p 204 (.fa (.t 203) 0 23), []⟩, ⟨none, .p 205 (.ld (.t 204) 0 1 false), []⟩, ⟨none, .p 206 (.mv (.t 1)), []⟩, ⟨none, .call (some 207) 49 [.ln (.t 205), .rd (.t 206)], []⟩, ⟨none, .asg 1 (.t 207), []⟩] [0, 1, 5, 16000]))))))))))))))))))))))))))))))))))))))))) (.reg false [⟨none, .p 10 (.mv (.t 5)), []⟩, ⟨none, .p 11 (.bin .add (.t 10) (.k (.i .i64 1))), []⟩, ⟨none, .asg 5 (.t 11), []⟩] [0, 1, 5, 16000])))))) (.seq (.reg false [⟨none, .p 208 (.mv (.t 1)), []⟩, ⟨none, .tk 4 (.t 208), []⟩] [4, 16000]) .ret)))
theorem code_laws_markDaemonS : ∃ c, Tryd.f47.body = some c ∧ cfit PP 209 c c_laws_markDaemonS = true := by
  refine ⟨_, (rfl : Tryd.f47.body = some _), ?_⟩
  kernel_rfl
theorem t_markDaemonS {G : Glob} (xs : List XDaemon) (k : Nat) (hk : k + cntL XDaemon.ct xs ≤ 1073741824) : FnD PP G 47 [.al 0 false, .val false [.ow (.lit (.int .i64 k))]] [] [(0, [.sl .el 24 (xs.map XDaemon.row)])]
    [.v false [.ow (.lit (.int .i64 (k + cntL XDaemon.ct xs : Nat)))]] [] [(0, [.sl .el 24 ((mkL XDaemon.mrk XDaemon.ct k xs).map XDaemon.row)])] := by
  refine fn_bd fun hbd => ?_
  have hx : xs.length ≤ 281474976710656 := hbd _ (by simp [hdsA, lenT, Cl.tree])
  clear hbd
  obtain ⟨cc, hb, hcf⟩ := code_laws_markDaemonS
  refine fn_ok (fn := Tryd.f47) (specs := [.t 4]) (by kernel_rfl) hb (by show (209:Nat) ≤ 10000; omega) hcf (by kernel_rfl) (by show (2:Nat) ≤ 209; omega) (by simp) (by simp) rfl rfl (by simp) rfl ?_
  simp only [c_laws_markDaemonS]
  push_cast
  refine cwp_loop (fun i : Nat => ⟨[(0, .al 0 false), (1, .val false [.ow (.lit (.int .i64 (k + cntL XDaemon.ct (xs.take i) : Nat)))]), (5, .val false [.ow (.lit (.int .i64 i))]), (16000, .hid [.sl .el 24 ((mkL XDaemon.mrk XDaemon.ct k (xs.take i) ++ xs.drop i).map XDaemon.row)])], []⟩)
    (fun i => i ≤ xs.length) (fun i => xs.length - i) 0 rfl (by simp [mkL, cntL]; rfl) (by omega) ?_
  intro i hle
  have hlen : (mkL XDaemon.mrk XDaemon.ct k (xs.take i) ++ xs.drop i).length = xs.length := by rw [List.length_append, mkL_len]; simp; omega
  by_cases hi : i < xs.length
  · have e := mark_step XDaemon.row XDaemon.mrk XDaemon.ct xs k i hi
    have hcl : k + cntL XDaemon.ct (xs.take (i + 1)) = (k + cntL XDaemon.ct (xs.take i)) + XDaemon.ct xs[i] := cnt_step XDaemon.ct xs k i hi
    have hKb : (k + cntL XDaemon.ct (xs.take i)) + XDaemon.ct xs[i] ≤ 1073741824 := Nat.le_trans (cnt_le XDaemon.ct xs k i hi) hk
    have hB1 : (mkL XDaemon.mrk XDaemon.ct k (xs.take i) ++ xs.drop i).map XDaemon.row = ((mkL XDaemon.mrk XDaemon.ct k (xs.take i) ++ xs.drop i).map XDaemon.row).set i (XDaemon.row xs[i]) := (mark_at XDaemon.row XDaemon.mrk XDaemon.ct xs k i hi).symm
    rw [hB1]
    generalize k + cntL XDaemon.ct (xs.take i) = K at hcl hKb e ⊢
    have hB2 : i < ((mkL XDaemon.mrk XDaemon.ct k (xs.take i) ++ xs.drop i).map XDaemon.row).length := by rw [List.length_map]; omega
    have hlen2 : ((mkL XDaemon.mrk XDaemon.ct k (xs.take i) ++ xs.drop i).map XDaemon.row).length = xs.length := by rw [List.length_map]; exact hlen
    generalize (mkL XDaemon.mrk XDaemon.ct k (xs.take i) ++ xs.drop i).map XDaemon.row = B at e hB2 hlen2 ⊢
    clear hB1 hlen
    simp only [XDaemon.row, XDaemon.mrk, XDaemon.ct, Int.natCast_add, Int.cast_ofNat_Int, Int.natCast_one] at e
    simp only [XDaemon.row]
    try simp only [XDaemon.ct] at hKb
    push_cast [List.length_set, getD_set_eq hB2, getq_set_eq hB2, set_modify, mkL_len, set2]
    refine cnd_dec (fun hlt => ?_) (fun hge => by omega)
    push_cast [List.length_set, getD_set_eq hB2, getq_set_eq hB2, set_modify, mkL_len, set2]
    try simp (disch := omega) only [wrap64]
    repeat (first | refine And.intro (by omega) ?_ | refine And.intro ⟨by omega, by omega⟩ ?_ | refine And.intro ⟨by omega, by omega, by omega⟩ ?_)
    have hc := t_markIntS (G := G) xs[i].Mate.Ring.Members (K + 1 + 1 + 1 + 1) (by omega)
    try simp only [Int.natCast_add, Int.cast_ofNat_Int, Int.natCast_one] at hc
    refine call_ok hc ?_
    clear hc
    push_cast [List.length_set, getD_set_eq hB2, getq_set_eq hB2, set_modify, mkL_len, set2]
    try simp (disch := omega) only [wrap64]
    repeat (first | refine And.intro (by omega) ?_ | refine And.intro ⟨by omega, by omega⟩ ?_ | refine And.intro ⟨by omega, by omega, by omega⟩ ?_)
    have hc := t_markItemS (G := G) xs[i].Mate.Items (K + 1 + 1 + 1 + 1 + cntL (fun _ => 1) xs[i].Mate.Ring.Members) (by omega)
    try simp only [Int.natCast_add, Int.cast_ofNat_Int, Int.natCast_one] at hc
    refine call_ok hc ?_
    clear hc
    push_cast [List.length_set, getD_set_eq hB2, getq_set_eq hB2, set_modify, mkL_len, set2]
    try simp (disch := omega) only [wrap64]
    repeat (first | refine And.intro (by omega) ?_ | refine And.intro ⟨by omega, by omega⟩ ?_ | refine And.intro ⟨by omega, by omega, by omega⟩ ?_)
    have hc := t_markIntS (G := G) xs[i].Mate.Level (K + 1 + 1 + 1 + 1 + cntL (fun _ => 1) xs[i].Mate.Ring.Members + cntL XItem.ct xs[i].Mate.Items) (by omega)
    try simp only [Int.natCast_add, Int.cast_ofNat_Int, Int.natCast_one] at hc
    refine call_ok hc ?_
    clear hc
    push_cast [List.length_set, getD_set_eq hB2, getq_set_eq hB2, set_modify, mkL_len, set2]
    try simp (disch := omega) only [wrap64]
    repeat (first | refine And.intro (by omega) ?_ | refine And.intro ⟨by omega, by omega⟩ ?_ | refine And.intro ⟨by omega, by omega, by omega⟩ ?_)
    have hc := t_markStringS (G := G) xs[i].Mate.Texts (K + 1 + 1 + 1 + 1 + cntL (fun _ => 1) xs[i].Mate.Ring.Members + cntL XItem.ct xs[i].Mate.Items + cntL (fun _ => 1) xs[i].Mate.Level) (by omega)
    try simp only [Int.natCast_add, Int.cast_ofNat_Int, Int.natCast_one] at hc
    refine call_ok hc ?_
    clear hc
    push_cast [List.length_set, getD_set_eq hB2, getq_set_eq hB2, set_modify, mkL_len, set2]
    try simp (disch := omega) only [wrap64]
    repeat (first | refine And.intro (by omega) ?_ | refine And.intro ⟨by omega, by omega⟩ ?_ | refine And.intro ⟨by omega, by omega, by omega⟩ ?_)
    have hc := t_markIntS (G := G) xs[i].Mate.Last.Wants (K + 1 + 1 + 1 + 1 + cntL (fun _ => 1) xs[i].Mate.Ring.Members + cntL XItem.ct xs[i].Mate.Items + cntL (fun _ => 1) xs[i].Mate.Level + cntL (fun _ => 1) xs[i].Mate.Texts + 1 + 1 + 1 + 1 + 1 + 1 + 1 + 1 + 1) (by omega)
    try simp only [Int.natCast_add, Int.cast_ofNat_Int, Int.natCast_one] at hc
    refine call_ok hc ?_
    clear hc
    push_cast [List.length_set, getD_set_eq hB2, getq_set_eq hB2, set_modify, mkL_len, set2]
    try simp (disch := omega) only [wrap64]
    repeat (first | refine And.intro (by omega) ?_ | refine And.intro ⟨by omega, by omega⟩ ?_ | refine And.intro ⟨by omega, by omega, by omega⟩ ?_)
    have hc := t_markIntS (G := G) xs[i].Joining.Members (K + 1 + 1 + 1 + 1 + cntL (fun _ => 1) xs[i].Mate.Ring.Members + cntL XItem.ct xs[i].Mate.Items + cntL (fun _ => 1) xs[i].Mate.Level + cntL (fun _ => 1) xs[i].Mate.Texts + 1 + 1 + 1 + 1 + 1 + 1 + 1 + 1 + 1 + cntL (fun _ => 1) xs[i].Mate.Last.Wants + 1 + 1 + 1) (by omega)
    try simp only [Int.natCast_add, Int.cast_ofNat_Int, Int.natCast_one] at hc
    refine call_ok hc ?_
    clear hc
    push_cast [List.length_set, getD_set_eq hB2, getq_set_eq hB2, set_modify, mkL_len, set2]
    try simp (disch := omega) only [wrap64]
    repeat (first | refine And.intro (by omega) ?_ | refine And.intro ⟨by omega, by omega⟩ ?_ | refine And.intro ⟨by omega, by omega, by omega⟩ ?_)
    have hc := t_markBundleS (G := G) xs[i].Bundles (K + 1 + 1 + 1 + 1 + cntL (fun _ => 1) xs[i].Mate.Ring.Members + cntL XItem.ct xs[i].Mate.Items + cntL (fun _ => 1) xs[i].Mate.Level + cntL (fun _ => 1) xs[i].Mate.Texts + 1 + 1 + 1 + 1 + 1 + 1 + 1 + 1 + 1 + cntL (fun _ => 1) xs[i].Mate.Last.Wants + 1 + 1 + 1 + cntL (fun _ => 1) xs[i].Joining.Members) (by omega)
    try simp only [Int.natCast_add, Int.cast_ofNat_Int, Int.natCast_one] at hc
    refine call_ok hc ?_
    clear hc
    push_cast [List.length_set, getD_set_eq hB2, getq_set_eq hB2, set_modify, mkL_len, set2]
    try simp (disch := omega) only [wrap64]
    repeat (first | refine And.intro (by omega) ?_ | refine And.intro ⟨by omega, by omega⟩ ?_ | refine And.intro ⟨by omega, by omega, by omega⟩ ?_)
    have hc := t_markEventS (G := G) xs[i].Log (K + 1 + 1 + 1 + 1 + cntL (fun _ => 1) xs[i].Mate.Ring.Members + cntL XItem.ct xs[i].Mate.Items + cntL (fun _ => 1) xs[i].Mate.Level + cntL (fun _ => 1) xs[i].Mate.Texts + 1 + 1 + 1 + 1 + 1 + 1 + 1 + 1 + 1 + cntL (fun _ => 1) xs[i].Mate.Last.Wants + 1 + 1 + 1 + cntL (fun _ => 1) xs[i].Joining.Members + cntL XBundle.ct xs[i].Bundles) (by omega)
    try simp only [Int.natCast_add, Int.cast_ofNat_Int, Int.natCast_one] at hc
    refine call_ok hc ?_
    clear hc
    push_cast [List.length_set, getD_set_eq hB2, getq_set_eq hB2, set_modify, mkL_len, set2]
    try simp (disch := omega) only [wrap64]
    repeat (first | refine And.intro (by omega) ?_ | refine And.intro ⟨by omega, by omega⟩ ?_ | refine And.intro ⟨by omega, by omega, by omega⟩ ?_)
    refine ⟨i + 1, ?_, by omega, by omega⟩
    have hcl2 := congrArg (fun x : Nat => (x : Int)) hcl
    try simp only [XDaemon.ct, Int.natCast_add, Int.cast_ofNat_Int, Int.natCast_one] at hcl2
    try simp only [Int.natCast_add, Int.cast_ofNat_Int, Int.natCast_one]
    rw [hcl2, e]
    try simp only [Int.add_assoc]
  · have hi : i = xs.length := by omega
    subst hi
    have hl0 : ((mkL XDaemon.mrk XDaemon.ct k (xs.take xs.length) ++ xs.drop xs.length).map XDaemon.row) = (mkL XDaemon.mrk XDaemon.ct k xs).map XDaemon.row := by simp
    rw [hl0, List.take_length]
    push_cast
    refine cnd_dec (fun hlt => ?_) (fun hge => ?_)
    · rw [mkL_len] at hlt; omega
    push_cast

noncomputable def c_laws_markLetterS : ACode := (.seq (.reg false [⟨none, .tk 4 (.k (.i .i64 0)), []⟩] [0, 1, 16000]) (.seq (.seq (.reg false [⟨none, .asg 5 (.k (.i .i64 0)), []⟩] [0, 1, 5, 16000]) (.block 0 (.loop [0, 1, 5, 16000] (.seq (.seq (.reg false [⟨none, .p 6 (.mv (.t 5)), []⟩, ⟨none, .p 7 (.mv (.t 0)), []⟩, ⟨none, .p 8 (.len false (.t 7)), []⟩, ⟨none, .p 9 (.bin .lss (.t 6) (.t 8)), []⟩] [0, 1, 5, 9, 16000]) (.cond (.t 9) .skip (.exit 0 [1, 16000]))) (.seq (.block 1 (.seq (.reg false [⟨none, .p 12 (.mv (.t 0)), []⟩, ⟨none, .p 13 (.mv (.t 5)), []⟩, ⟨none, .p 14 (.mv (.t 1)), []⟩, ⟨none, .p 15 (.ia (.t 12) (.t 13) 17), []⟩, ⟨none, .p 16 (.fa (.t 15) 0 0), []⟩, ⟨none, .st (.t 16) (.t 14) 1, []⟩] [0, 1, 5, 16000]) (.seq (.reg false [⟨none, .p 17 (.mv (.t 1)), []⟩, ⟨none, .p 18 (.bin .add (.t 17) (.k (.i .i64 1))), []⟩, ⟨none, .asg 1 (.t 18), []⟩] [0, 1, 5, 16000]) (.seq (.reg false [⟨none, .p 19 (.mv (.t 0)), []⟩, ⟨none, .p 20 (.mv (.t 5)), []⟩, ⟨none, .p 21 (.mv (.t 1)), []⟩, ⟨none, .p 22 (.ia (.t 19) (.t 20) 17), []⟩, ⟨none, .p 23 (.fa (.t 22) 0 1), []⟩, ⟨none, .st (.t 23) (.t 21) 1, []⟩] [0, 1, 5, 16000]) (.seq (.reg false [⟨none, .p 24 (.mv (.t 1)), []⟩, ⟨none, .p 25 (.bin .add (.t 24) (.k (.i .i64 1))), []⟩, ⟨none, .asg 1 (.t 25), []⟩] [0, 1, 5, 16000]) (.seq (.reg false [⟨none, .p 26 (.mv (.t 0)), []⟩, ⟨none, .p 27 (.mv (.t 5)), []⟩, ⟨none, .p 28 (.mv (.t 1)), []⟩, ⟨none, .p 29 (.ia (.t 26) (.t 27) 17), []⟩, ⟨none, .p 30 (.fa (.t 29) 0 2), []⟩, ⟨none, .st (.t 30) (.t 28) 1, []⟩] [0, 1, 5, 16000]) (.seq (.reg false [⟨none, .p 31 (.mv (.t 1)), []⟩, ⟨none, .p 32 (.bin .add (.t 31) (.k (.i .i64 1))), []⟩, ⟨none, .asg 1 (.t 32), []⟩] [0, 1, 5, 16000]) (.seq (.reg false [⟨none, .p 33 (.mv (.t 0)), []⟩, ⟨none, .p 34 (.mv (.t 5)), []⟩, ⟨none, .p 35 (.mv (.t 1)), []⟩, ⟨none, .p 36 (.ia (.t 33) (.t 34) 17), []⟩, ⟨none, .p 37 (.fa (.t 36) 0 3), []⟩, ⟨none, .p 38 (.fa (.t 37) 0 0), []⟩, ⟨none, .st (.t 38) (.t 35) 1, []⟩] [0, 1, 5, 16000]) (.seq (.reg false [⟨none, .p 39 (.mv (.t 1)), []⟩, ⟨none, .p 40 (.bin .add (.t 39) (.k (.i .i64 1))), []⟩, ⟨none, .asg 1 (.t 40), []⟩] [0, 1, 5, 16000]) (.seq (.reg false [⟨none, .p 41 (.mv (.t 0)), []⟩, ⟨none, .p 42 (.mv (.t 5)), []⟩, ⟨none, .p 43 (.mv (.t 1)), []⟩, ⟨none, .p 44 (.ia (.t 41) (.t 42) 17), []⟩, ⟨none, .p 45 (.fa (.t 44) 0 3), []⟩, ⟨none, .p 46 (.fa (.t 45) 0 1), []⟩, ⟨none, .st (.t 46) (.t 43) 1, []⟩] [0, 1, 5, 16000]) (.seq (.reg false [⟨none, .p 47 (.mv (.t 1)), []⟩, ⟨none, .p 48 (.bin .add (.t 47) (.k (.i .i64 1))), []⟩, ⟨none, .asg 1 (.t 48), []⟩] [0, 1, 5, 16000]) (.seq (.reg false [⟨none, .p 49 (.mv (.t 0)), []⟩, ⟨none, .p 50 (.mv (.t 5)), []⟩, ⟨none, .p 51 (.mv (.t 1)), []⟩, ⟨none, .p 52 (.ia (.t 49) (.t 50) 17), []⟩, ⟨none, .p 53 (.fa (.t 52) 0 3), []⟩, ⟨none, .p 54 (.fa (.t 53) 0 2), []⟩, ⟨none, .st (.t 54) (.t 51) 1, []⟩] [0, 1, 5, 16000]) (.seq (.reg false [⟨none, .p 55 (.mv (.t 1)), []⟩, ⟨none, .p 56 (.bin .add (.t 55) (.k (.i .i64 1))), []⟩, ⟨none, .asg 1 (.t 56), []⟩] [0, 1, 5, 16000]) (.seq (.reg false [⟨none, .p 57 (.mv (.t 0)), []⟩, ⟨none, .p 58 (.mv (.t 5)), []⟩, ⟨none, .p 59 (.mv (.t 1)), []⟩, ⟨none, .call (some 60) 50 [.rd (.t 59)], []⟩, ⟨none, .p 61 (.ia (.t 57) (.t 58) 17), []⟩, ⟨none, .p 62 (.fa (.t 61) 0 3), []⟩, ⟨none, .p 63 (.fa (.t 62) 0 3), []⟩, ⟨none, .st (.t 63) (.t 60) 1, []⟩] [0, 1, 5, 16000]) (.seq (.reg false [⟨none, .p 64 (.mv (.t 1)), []⟩, ⟨none, .p 65 (.bin .add (.t 64) (.k (.i .i64 1))), []⟩, ⟨none, .asg 1 (.t 65), []⟩] [0, 1, 5, 16000]) (.seq (.reg false [⟨none, .p 66 (.mv (.t 0)), []⟩, ⟨none, .p 67 (.mv (.t 5)), []⟩, ⟨none, .p 68 (.mv (.t 1)), []⟩, ⟨none, .p 69 (.ia (.t 66) (.t 67) 17), []⟩, ⟨none, .p 70 (.fa (.t 69) 0 7), []⟩, ⟨none, .p 71 (.fa (.t 70) 0 0), []⟩, ⟨none, .st (.t 71) (.t 68) 1, []⟩] [0, 1, 5, 16000]) (.seq (.reg false [⟨none, .p 72 (.mv (.t 1)), []⟩, ⟨none, .p 73 (.bin .add (.t 72) (.k (.i .i64 1))), []⟩, ⟨none, .asg 1 (.t 73), []⟩] [0, 1, 5, 16000]) (.seq (.reg false [⟨none, .p 74 (.mv (.t 0)), []⟩, ⟨none, .p 75 (.mv (.t 5)), []⟩, ⟨none, .p 76 (.mv (.t 1)), []⟩, ⟨none, .p 77 (.ia (.t 74) (.t 75) 17), []⟩, ⟨none, .p 78 (.fa (.t 77) 0 7), []⟩, ⟨none, .p 79 (.fa (.t 78) 0 1), []⟩, ⟨none, .st (.t 79) (.t 76) 1, []⟩] [0, 1, 5, 16000]) (.seq (.reg false [⟨none, .p 80 (.mv (.t 1)), []⟩, ⟨none, .p 81 (.bin .add (.t 80) (.k (.i .i64 1))), []⟩, ⟨none, .asg 1 (.t 81), []⟩] [0, 1, 5, 16000]) (.seq (.reg false [⟨none, .p 82 (.mv (.t 0)), []⟩, ⟨none, .p 83 (.mv (.t 5)), []⟩, ⟨none, .p 84 (.mv (.t 1)), []⟩, ⟨none, .p 85 (.ia (.t 82) (.t 83) 17), []⟩, ⟨none, .p 86 (.fa (.t 85) 0 7), []⟩, ⟨none, .p 87 (.fa (.t 86) 0 2), []⟩, ⟨none, .st (.t 87) (.t 84) 1, []⟩] [0, 1, 5, 16000]) (.seq (.reg false [⟨none, .p 88 (.mv (.t 1)), []⟩, ⟨none, .p 89 (.bin .add (.t 88) (.k (.i .i64 1))), []⟩, ⟨none, .asg 1 (.t 89), []⟩] [0, 1, 5, 16000]) (.seq (.reg false [⟨none, .p 90 (.mv (.t 0)), []⟩, ⟨none, .p 91 (.mv (.t 5)), []⟩, ⟨none, .p 92 (.mv (.t 1)), []⟩, ⟨none, .p 93 (.ia (.t 90) (.t 91) 17), []⟩, ⟨none, .p 94 (.fa (.t 93) 0 7), []⟩, ⟨none, .p 95 (.fa (.t 94) 0 3), []⟩, ⟨none, .st (.t 95) (.t 92) 1, []⟩] [0, 1, 5, 16000]) (.seq (.reg false [⟨none, .p 96 (.mv (.t 1)), []⟩, ⟨none, .p 97 (.bin .add (.t 96) (.k (.i .i64 1))), []⟩, ⟨none, .asg 1 (.t 97), []⟩] [0, 1, 5, 16000]) (.seq (.reg false [⟨none, .p 98 (.mv (.t 0)), []⟩, ⟨none, .p 99 (.mv (.t 5)), []⟩, ⟨none, .p 100 (.mv (.t 1)), []⟩, ⟨none, .p 101 (.ia (.t 98) (.t 99) 17), []⟩, ⟨none, .p 102 (.fa (.t 101) 0 7), []⟩, ⟨none, .p 103 (.fa (.t 102) 0 4), []⟩, ⟨none, .st (.t 103) (.t 100) 1, []⟩] [0, 1, 5, 16000]) (.seq (.reg false [⟨none, .p 104 (.mv (.t 1)), []⟩, ⟨none, .p 105 (.bin .add (.t 104) (.k (.i .i64 1))), []⟩, ⟨none, .asg 1 (.t 105), []⟩] [0, 1, 5, 16000]) (.seq (.reg false [⟨none, .p 106 (.mv (.t 0)), []⟩, ⟨none, .p 107 (.mv (.t 5)), []⟩, ⟨none, .p 108 (.ia (.t 106) (.t 107) 17), []⟩, ⟨none, .p 109 (.fa (.t 108) 0 7), []⟩, ⟨none, .p 110 (.fa (.t 109) 0 5), []⟩, ⟨none, .p 111 (.ld (.t 110) 0 1 false), []⟩, ⟨none, .p 112 (.mv (.t 1)), []⟩, ⟨none, .call (some 113) 24 [.ln (.t 111), .rd (.t 112)], []⟩, ⟨none, .asg 1 (.t 113), []⟩] [0, 1, 5, 16000]) (.seq (.reg false [⟨none, .p 114 (.mv (.t 0)), []⟩, ⟨none, .p 115 (.mv (.t 5)), []⟩, ⟨none, .p 116 (.mv (.t 1)), []⟩, ⟨none, .p 117 (.ia (.t 114) (.t 115) 17), []⟩, ⟨none, .p 118 (.fa (.t 117) 0 13), []⟩, ⟨none, .p 119 (.fa (.t 118) 0 0), []⟩, ⟨none, .st (.t 119) (.t 116) 1, []⟩] [0, 1, 5, 16000]) (.seq (.reg false [⟨none, .p 120 (.mv (.t 1)), []⟩, ⟨none, .p 121 (.bin .add (.t 120) (.k (.i .i64 1))), []⟩, ⟨none, .asg 1 (.t 121), []⟩] [0, 1, 5, 16000]) (.seq (.reg false [⟨none, .p 122 (.mv (.t 0)), []⟩, ⟨none, .p 123 (.mv (.t 5)), []⟩, ⟨none, .p 124 (.mv (.t 1)), []⟩, ⟨none, .p 125 (.ia (.t 122) (.t 123) 17), []⟩, ⟨none, .p 126 (.fa (.t 125) 0 13), []⟩, ⟨none, .p 127 (.fa (.t 126) 0 1), []⟩, ⟨none, .st (.t 127) (.t 124) 1, []⟩] [0, 1, 5, 16000]) (.seq (.reg false [⟨none, .p 128 (.mv (.t 1)), []⟩, ⟨none, .p 129 (.bin .add (.t 128) (.k (.i .i64 1))), []⟩, ⟨none, .asg 1 (.t 129), []⟩] [0, 1, 5, 16000]) (.seq (.reg false [⟨none, .p 130 (.mv (.t 0)), []⟩, ⟨none, .p 131 (.mv (.t 5)), []⟩, ⟨none, .p 132 (.mv (.t 1)), []⟩, ⟨none, .p 133 (.ia (.t 130) (.t 131) 17), []⟩, ⟨none, .p 134 (.fa (.t 133) 0 13), []⟩, ⟨none, .p 135 (.fa (.t 134) 0 2), []⟩, ⟨none, .st (.t 135) (.t 132) 1, []⟩] [0, 1, 5, 16000]) (.seq (.reg false [⟨none, .p 136 (.mv (.t 1)), []⟩, ⟨none, .p 137 (.bin .add (.t 136) (.k (.i .i64 1))), []⟩, ⟨none, .asg 1 (.t 137), []⟩] [0, 1, 5, 16000]) (.reg false [⟨none, .p 138 (.mv (.t 0)), []⟩, ⟨none, .p 139 (.mv (.t 5)), []⟩, ⟨none, .p 140 (.ia (.t 138) (.t 139) 17), []⟩, ⟨none, .p 141 (.fa (.t 140) 0 13), []⟩, ⟨none, .p 142 (.fa (.t 141) 0 3), []⟩, ⟨none, .p 143 (.ld (.t 142) 0 1 false), []⟩, ⟨none, .p 144 (.mv (.t 1)), []⟩, ⟨none, .call (some 145) 74 [.ln (.t 143), .rd (.t 144)], []⟩, ⟨none, .asg 1 (.t 145), []⟩] [0, 1, 5, 16000]))))))))))))))))))))))))))))))))) (.reg false [⟨none, .p 10 (.mv (.t 5)), []⟩, ⟨none, .p 11 (.bin .add (.t 10) (.k (.i .i64 1))), []⟩, ⟨none, .asg 5 (.t 11), []⟩] [0, 1, 5, 16000])))))) (.seq (.reg false [⟨none, .p 146 (.mv (.t 1)), []⟩, ⟨none, .tk 4 (.t 146), []⟩] [4, 16000]) .ret)))
theorem code_laws_markLetterS : ∃ c, Tryd.f48.body = some c ∧ cfit PP 147 c c_laws_markLetterS = true := by
  refine ⟨_, (rfl : Tryd.f48.body = some _), ?_⟩
  kernel_rfl
theorem t_markLetterS {G : Glob} (xs : List XLetter) (k : Nat) (hk : k + cntL XLetter.ct xs ≤ 1073741824) : FnD PP G 48 [.al 0 false, .val false [.ow (.lit (.int .i64 k))]] [] [(0, [.sl .el 17 (xs.map XLetter.row)])]
    [.v false [.ow (.lit (.int .i64 (k + cntL XLetter.ct xs : Nat)))]] [] [(0, [.sl .el 17 ((mkL XLetter.mrk XLetter.ct k xs).map XLetter.row)])] := by
  refine fn_bd fun hbd => ?_
  have hx : xs.length ≤ 281474976710656 := hbd _ (by simp [hdsA, lenT, Cl.tree])
  clear hbd
  obtain ⟨cc, hb, hcf⟩ := code_laws_markLetterS
  refine fn_ok (fn := Tryd.f48) (specs := [.t 4]) (by kernel_rfl) hb (by show (147:Nat) ≤ 10000; omega) hcf (by kernel_rfl) (by show (2:Nat) ≤ 147; omega) (by simp) (by simp) rfl rfl (by simp) rfl ?_
  simp only [c_laws_markLetterS]
  push_cast
  refine cwp_loop (fun i : Nat => ⟨[(0, .al 0 false), (1, .val false [.ow (.lit (.int .i64 (k + cntL XLetter.ct (xs.take i) : Nat)))]), (5, .val false [.ow (.lit (.int .i64 i))]), (16000, .hid [.sl .el 17 ((mkL XLetter.mrk XLetter.ct k (xs.take i) ++ xs.drop i).map XLetter.row)])], []⟩)
    (fun i => i ≤ xs.length) (fun i => xs.length - i) 0 rfl (by simp [mkL, cntL]; rfl) (by omega) ?_
  intro i hle
  have hlen : (mkL XLetter.mrk XLetter.ct k (xs.take i) ++ xs.drop i).length = xs.length := by rw [List.length_append, mkL_len]; simp; omega
  by_cases hi : i < xs.length
  · have e := mark_step XLetter.row XLetter.mrk XLetter.ct xs k i hi
    have hcl : k + cntL XLetter.ct (xs.take (i + 1)) = (k + cntL XLetter.ct (xs.take i)) + XLetter.ct xs[i] := cnt_step XLetter.ct xs k i hi
    have hKb : (k + cntL XLetter.ct (xs.take i)) + XLetter.ct xs[i] ≤ 1073741824 := Nat.le_trans (cnt_le XLetter.ct xs k i hi) hk
    have hB1 : (mkL XLetter.mrk XLetter.ct k (xs.take i) ++ xs.drop i).map XLetter.row = ((mkL XLetter.mrk XLetter.ct k (xs.take i) ++ xs.drop i).map XLetter.row).set i (XLetter.row xs[i]) := (mark_at XLetter.row XLetter.mrk XLetter.ct xs k i hi).symm
    rw [hB1]
    generalize k + cntL XLetter.ct (xs.take i) = K at hcl hKb e ⊢
    have hB2 : i < ((mkL XLetter.mrk XLetter.ct k (xs.take i) ++ xs.drop i).map XLetter.row).length := by rw [List.length_map]; omega
    have hlen2 : ((mkL XLetter.mrk XLetter.ct k (xs.take i) ++ xs.drop i).map XLetter.row).length = xs.length := by rw [List.length_map]; exact hlen
    generalize (mkL XLetter.mrk XLetter.ct k (xs.take i) ++ xs.drop i).map XLetter.row = B at e hB2 hlen2 ⊢
    clear hB1 hlen
    simp only [XLetter.row, XLetter.mrk, XLetter.ct, Int.natCast_add, Int.cast_ofNat_Int, Int.natCast_one] at e
    simp only [XLetter.row]
    try simp only [XLetter.ct] at hKb
    push_cast [List.length_set, getD_set_eq hB2, getq_set_eq hB2, set_modify, mkL_len, set2]
    refine cnd_dec (fun hlt => ?_) (fun hge => by omega)
    push_cast [List.length_set, getD_set_eq hB2, getq_set_eq hB2, set_modify, mkL_len, set2]
    try simp (disch := omega) only [wrap64]
    repeat (first | refine And.intro (by omega) ?_ | refine And.intro ⟨by omega, by omega⟩ ?_ | refine And.intro ⟨by omega, by omega, by omega⟩ ?_)
    have hc := t_markText (G := G) (K + 1 + 1 + 1 + 1 + 1 + 1) (by omega)
    try simp only [Int.natCast_add, Int.cast_ofNat_Int, Int.natCast_one] at hc
    refine call_ok hc ?_
    clear hc
    push_cast [List.length_set, getD_set_eq hB2, getq_set_eq hB2, set_modify, mkL_len, set2]
    try simp (disch := omega) only [wrap64]
    repeat (first | refine And.intro (by omega) ?_ | refine And.intro ⟨by omega, by omega⟩ ?_ | refine And.intro ⟨by omega, by omega, by omega⟩ ?_)
    have hc := t_markIntS (G := G) xs[i].Token.Wants (K + 1 + 1 + 1 + 1 + 1 + 1 + 1 + 1 + 1 + 1 + 1 + 1) (by omega)
    try simp only [Int.natCast_add, Int.cast_ofNat_Int, Int.natCast_one] at hc
    refine call_ok hc ?_
    clear hc
    push_cast [List.length_set, getD_set_eq hB2, getq_set_eq hB2, set_modify, mkL_len, set2]
    try simp (disch := omega) only [wrap64]
    repeat (first | refine And.intro (by omega) ?_ | refine And.intro ⟨by omega, by omega⟩ ?_ | refine And.intro ⟨by omega, by omega, by omega⟩ ?_)
    have hc := t_markItemS (G := G) xs[i].Bundle.Items (K + 1 + 1 + 1 + 1 + 1 + 1 + 1 + 1 + 1 + 1 + 1 + 1 + cntL (fun _ => 1) xs[i].Token.Wants + 1 + 1 + 1) (by omega)
    try simp only [Int.natCast_add, Int.cast_ofNat_Int, Int.natCast_one] at hc
    refine call_ok hc ?_
    clear hc
    push_cast [List.length_set, getD_set_eq hB2, getq_set_eq hB2, set_modify, mkL_len, set2]
    try simp (disch := omega) only [wrap64]
    repeat (first | refine And.intro (by omega) ?_ | refine And.intro ⟨by omega, by omega⟩ ?_ | refine And.intro ⟨by omega, by omega, by omega⟩ ?_)
    refine ⟨i + 1, ?_, by omega, by omega⟩
    have hcl2 := congrArg (fun x : Nat => (x : Int)) hcl
    try simp only [XLetter.ct, Int.natCast_add, Int.cast_ofNat_Int, Int.natCast_one] at hcl2
    try simp only [Int.natCast_add, Int.cast_ofNat_Int, Int.natCast_one]
    rw [hcl2, e]
    try simp only [Int.add_assoc]
  · have hi : i = xs.length := by omega
    subst hi
    have hl0 : ((mkL XLetter.mrk XLetter.ct k (xs.take xs.length) ++ xs.drop xs.length).map XLetter.row) = (mkL XLetter.mrk XLetter.ct k xs).map XLetter.row := by simp
    rw [hl0, List.take_length]
    push_cast
    refine cnd_dec (fun hlt => ?_) (fun hge => ?_)
    · rw [mkL_len] at hlt; omega
    push_cast

noncomputable def c_laws_markGroupS : ACode := (.seq (.reg false [⟨none, .tk 4 (.k (.i .i64 0)), []⟩] [0, 1, 16000]) (.seq (.seq (.reg false [⟨none, .asg 5 (.k (.i .i64 0)), []⟩] [0, 1, 5, 16000]) (.block 0 (.loop [0, 1, 5, 16000] (.seq (.seq (.reg false [⟨none, .p 6 (.mv (.t 5)), []⟩, ⟨none, .p 7 (.mv (.t 0)), []⟩, ⟨none, .p 8 (.len false (.t 7)), []⟩, ⟨none, .p 9 (.bin .lss (.t 6) (.t 8)), []⟩] [0, 1, 5, 9, 16000]) (.cond (.t 9) .skip (.exit 0 [1, 16000]))) (.seq (.block 1 (.seq (.reg false [⟨none, .p 12 (.mv (.t 0)), []⟩, ⟨none, .p 13 (.mv (.t 5)), []⟩, ⟨none, .p 14 (.mv (.t 1)), []⟩, ⟨none, .call (some 15) 50 [.rd (.t 14)], []⟩, ⟨none, .p 16 (.ia (.t 12) (.t 13) 2), []⟩, ⟨none, .p 17 (.fa (.t 16) 0 0), []⟩, ⟨none, .st (.t 17) (.t 15) 1, []⟩] [0, 1, 5, 16000]) (.seq (.reg false [⟨none, .p 18 (.mv (.t 1)), []⟩, ⟨none, .p 19 (.bin .add (.t 18) (.k (.i .i64 1))), []⟩, ⟨none, .asg 1 (.t 19), []⟩] [0, 1, 5, 16000]) (.reg false [⟨none, .p 20 (.mv (.t 0)), []⟩, ⟨none, .p 21 (.mv (.t 5)), []⟩, ⟨none, .p 22 (.ia (.t 20) (.t 21) 2), []⟩, ⟨none, .p 23 (.fa (.t 22) 0 1), []⟩, ⟨none, .p 24 (.ld (.t 23) 0 1 false), []⟩, ⟨none, .p 25 (.mv (.t 1)), []⟩, ⟨none, .call (some 26) 51 [.ln (.t 24), .rd (.t 25)], []⟩, ⟨none, .asg 1 (.t 26), []⟩] [0, 1, 5, 16000])))) (.reg false [⟨none, .p 10 (.mv (.t 5)), []⟩, ⟨none, .p 11 (.bin .add (.t 10) (.k (.i .i64 1))), []⟩, ⟨none, .asg 5 (.t 11), []⟩] [0, 1, 5, 16000])))))) (.seq (.reg false [⟨none, .p 27 (.mv (.t 1)), []⟩, ⟨none, .tk 4 (.t 27), []⟩] [4, 16000]) .ret)))
theorem code_laws_markGroupS : ∃ c, Tryd.f52.body = some c ∧ cfit PP 28 c c_laws_markGroupS = true := by
  refine ⟨_, (rfl : Tryd.f52.body = some _), ?_⟩
  kernel_rfl
theorem t_markGroupS {G : Glob} (xs : List XGroup) (k : Nat) (hk : k + cntL XGroup.ct xs ≤ 1073741824) : FnD PP G 52 [.al 0 false, .val false [.ow (.lit (.int .i64 k))]] [] [(0, [.sl .el 2 (xs.map XGroup.row)])]
    [.v false [.ow (.lit (.int .i64 (k + cntL XGroup.ct xs : Nat)))]] [] [(0, [.sl .el 2 ((mkL XGroup.mrk XGroup.ct k xs).map XGroup.row)])] := by
  refine fn_bd fun hbd => ?_
  have hx : xs.length ≤ 281474976710656 := hbd _ (by simp [hdsA, lenT, Cl.tree])
  clear hbd
  obtain ⟨cc, hb, hcf⟩ := code_laws_markGroupS
  refine fn_ok (fn := Tryd.f52) (specs := [.t 4]) (by kernel_rfl) hb (by show (28:Nat) ≤ 10000; omega) hcf (by kernel_rfl) (by show (2:Nat) ≤ 28; omega) (by simp) (by simp) rfl rfl (by simp) rfl ?_
  simp only [c_laws_markGroupS]
  push_cast
  refine cwp_loop (fun i : Nat => ⟨[(0, .al 0 false), (1, .val false [.ow (.lit (.int .i64 (k + cntL XGroup.ct (xs.take i) : Nat)))]), (5, .val false [.ow (.lit (.int .i64 i))]), (16000, .hid [.sl .el 2 ((mkL XGroup.mrk XGroup.ct k (xs.take i) ++ xs.drop i).map XGroup.row)])], []⟩)
    (fun i => i ≤ xs.length) (fun i => xs.length - i) 0 rfl (by simp [mkL, cntL]; rfl) (by omega) ?_
  intro i hle
  have hlen : (mkL XGroup.mrk XGroup.ct k (xs.take i) ++ xs.drop i).length = xs.length := by rw [List.length_append, mkL_len]; simp; omega
  by_cases hi : i < xs.length
  · have e := mark_step XGroup.row XGroup.mrk XGroup.ct xs k i hi
    have hcl : k + cntL XGroup.ct (xs.take (i + 1)) = (k + cntL XGroup.ct (xs.take i)) + XGroup.ct xs[i] := cnt_step XGroup.ct xs k i hi
    have hKb : (k + cntL XGroup.ct (xs.take i)) + XGroup.ct xs[i] ≤ 1073741824 := Nat.le_trans (cnt_le XGroup.ct xs k i hi) hk
    have hB1 : (mkL XGroup.mrk XGroup.ct k (xs.take i) ++ xs.drop i).map XGroup.row = ((mkL XGroup.mrk XGroup.ct k (xs.take i) ++ xs.drop i).map XGroup.row).set i (XGroup.row xs[i]) := (mark_at XGroup.row XGroup.mrk XGroup.ct xs k i hi).symm
    rw [hB1]
    generalize k + cntL XGroup.ct (xs.take i) = K at hcl hKb e ⊢
    have hB2 : i < ((mkL XGroup.mrk XGroup.ct k (xs.take i) ++ xs.drop i).map XGroup.row).length := by rw [List.length_map]; omega
    have hlen2 : ((mkL XGroup.mrk XGroup.ct k (xs.take i) ++ xs.drop i).map XGroup.row).length = xs.length := by rw [List.length_map]; exact hlen
    generalize (mkL XGroup.mrk XGroup.ct k (xs.take i) ++ xs.drop i).map XGroup.row = B at e hB2 hlen2 ⊢
    clear hB1 hlen
    simp only [XGroup.row, XGroup.mrk, XGroup.ct, Int.natCast_add, Int.cast_ofNat_Int, Int.natCast_one] at e
    simp only [XGroup.row]
    try simp only [XGroup.ct] at hKb
    push_cast [List.length_set, getD_set_eq hB2, getq_set_eq hB2, set_modify, mkL_len, set2]
    refine cnd_dec (fun hlt => ?_) (fun hge => by omega)
    push_cast [List.length_set, getD_set_eq hB2, getq_set_eq hB2, set_modify, mkL_len, set2]
    try simp (disch := omega) only [wrap64]
    repeat (first | refine And.intro (by omega) ?_ | refine And.intro ⟨by omega, by omega⟩ ?_ | refine And.intro ⟨by omega, by omega, by omega⟩ ?_)
    have hc := t_markText (G := G) (K) (by omega)
    try simp only [Int.natCast_add, Int.cast_ofNat_Int, Int.natCast_one] at hc
    refine call_ok hc ?_
    clear hc
    push_cast [List.length_set, getD_set_eq hB2, getq_set_eq hB2, set_modify, mkL_len, set2]
    try simp (disch := omega) only [wrap64]
    repeat (first | refine And.intro (by omega) ?_ | refine And.intro ⟨by omega, by omega⟩ ?_ | refine And.intro ⟨by omega, by omega, by omega⟩ ?_)
    have hc := t_markStringS (G := G) xs[i].Members (K + 1) (by omega)
    try simp only [Int.natCast_add, Int.cast_ofNat_Int, Int.natCast_one] at hc
    refine call_ok hc ?_
    clear hc
    push_cast [List.length_set, getD_set_eq hB2, getq_set_eq hB2, set_modify, mkL_len, set2]
    try simp (disch := omega) only [wrap64]
    repeat (first | refine And.intro (by omega) ?_ | refine And.intro ⟨by omega, by omega⟩ ?_ | refine And.intro ⟨by omega, by omega, by omega⟩ ?_)
    refine ⟨i + 1, ?_, by omega, by omega⟩
    have hcl2 := congrArg (fun x : Nat => (x : Int)) hcl
    try simp only [XGroup.ct, Int.natCast_add, Int.cast_ofNat_Int, Int.natCast_one] at hcl2
    try simp only [Int.natCast_add, Int.cast_ofNat_Int, Int.natCast_one]
    rw [hcl2, e]
    try simp only [Int.add_assoc]
  · have hi : i = xs.length := by omega
    subst hi
    have hl0 : ((mkL XGroup.mrk XGroup.ct k (xs.take xs.length) ++ xs.drop xs.length).map XGroup.row) = (mkL XGroup.mrk XGroup.ct k xs).map XGroup.row := by simp
    rw [hl0, List.take_length]
    push_cast
    refine cnd_dec (fun hlt => ?_) (fun hge => ?_)
    · rw [mkL_len] at hlt; omega
    push_cast

noncomputable def c_laws_markTableS : ACode := (.seq (.reg false [⟨none, .tk 4 (.k (.i .i64 0)), []⟩] [0, 1, 16000]) (.seq (.seq (.reg false [⟨none, .asg 5 (.k (.i .i64 0)), []⟩] [0, 1, 5, 16000]) (.block 0 (.loop [0, 1, 5, 16000] (.seq (.seq (.reg false [⟨none, .p 6 (.mv (.t 5)), []⟩, ⟨none, .p 7 (.mv (.t 0)), []⟩, ⟨none, .p 8 (.len false (.t 7)), []⟩, ⟨none, .p 9 (.bin .lss (.t 6) (.t 8)), []⟩] [0, 1, 5, 9, 16000]) (.cond (.t 9) .skip (.exit 0 [1, 16000]))) (.seq (.block 1 (.reg false [⟨none, .p 12 (.mv (.t 0)), []⟩, ⟨none, .p 13 (.mv (.t 5)), []⟩, ⟨none, .p 14 (.ia (.t 12) (.t 13) 1), []⟩, ⟨none, .p 15 (.fa (.t 14) 0 0), []⟩, ⟨none, .p 16 (.ld (.t 15) 0 1 false), []⟩, ⟨none, .p 17 (.mv (.t 1)), []⟩, ⟨none, .call (some 18) 52 [.ln (.t 16), .rd (.t 17)], []⟩, ⟨none, .asg 1 (.t 18), []⟩] [0, 1, 5, 16000])) (.reg false [⟨none, .p 10 (.mv (.t 5)), []⟩, ⟨none, .p 11 (.bin .add (.t 10) (.k (.i .i64 1))), []⟩, ⟨none, .asg 5 (.t 11), []⟩] [0, 1, 5, 16000])))))) (.seq (.reg false [⟨none, .p 19 (.mv (.t 1)), []⟩, ⟨none, .tk 4 (.t 19), []⟩] [4, 16000]) .ret)))
theorem code_laws_markTableS : ∃ c, Tryd.f27.body = some c ∧ cfit PP 20 c c_laws_markTableS = true := by
  refine ⟨_, (rfl : Tryd.f27.body = some _), ?_⟩
  kernel_rfl
theorem t_markTableS {G : Glob} (xs : List XTable) (k : Nat) (hk : k + cntL XTable.ct xs ≤ 1073741824) : FnD PP G 27 [.al 0 false, .val false [.ow (.lit (.int .i64 k))]] [] [(0, [.sl .el 1 (xs.map XTable.row)])]
    [.v false [.ow (.lit (.int .i64 (k + cntL XTable.ct xs : Nat)))]] [] [(0, [.sl .el 1 ((mkL XTable.mrk XTable.ct k xs).map XTable.row)])] := by
  refine fn_bd fun hbd => ?_
  have hx : xs.length ≤ 281474976710656 := hbd _ (by simp [hdsA, lenT, Cl.tree])
  clear hbd
  obtain ⟨cc, hb, hcf⟩ := code_laws_markTableS
  refine fn_ok (fn := Tryd.f27) (specs := [.t 4]) (by kernel_rfl) hb (by show (20:Nat) ≤ 10000; omega) hcf (by kernel_rfl) (by show (2:Nat) ≤ 20; omega) (by simp) (by simp) rfl rfl (by simp) rfl ?_
  simp only [c_laws_markTableS]
  push_cast
  refine cwp_loop (fun i : Nat => ⟨[(0, .al 0 false), (1, .val false [.ow (.lit (.int .i64 (k + cntL XTable.ct (xs.take i) : Nat)))]), (5, .val false [.ow (.lit (.int .i64 i))]), (16000, .hid [.sl .el 1 ((mkL XTable.mrk XTable.ct k (xs.take i) ++ xs.drop i).map XTable.row)])], []⟩)
    (fun i => i ≤ xs.length) (fun i => xs.length - i) 0 rfl (by simp [mkL, cntL]; rfl) (by omega) ?_
  intro i hle
  have hlen : (mkL XTable.mrk XTable.ct k (xs.take i) ++ xs.drop i).length = xs.length := by rw [List.length_append, mkL_len]; simp; omega
  by_cases hi : i < xs.length
  · have e := mark_step XTable.row XTable.mrk XTable.ct xs k i hi
    have hcl : k + cntL XTable.ct (xs.take (i + 1)) = (k + cntL XTable.ct (xs.take i)) + XTable.ct xs[i] := cnt_step XTable.ct xs k i hi
    have hKb : (k + cntL XTable.ct (xs.take i)) + XTable.ct xs[i] ≤ 1073741824 := Nat.le_trans (cnt_le XTable.ct xs k i hi) hk
    have hB1 : (mkL XTable.mrk XTable.ct k (xs.take i) ++ xs.drop i).map XTable.row = ((mkL XTable.mrk XTable.ct k (xs.take i) ++ xs.drop i).map XTable.row).set i (XTable.row xs[i]) := (mark_at XTable.row XTable.mrk XTable.ct xs k i hi).symm
    rw [hB1]
    generalize k + cntL XTable.ct (xs.take i) = K at hcl hKb e ⊢
    have hB2 : i < ((mkL XTable.mrk XTable.ct k (xs.take i) ++ xs.drop i).map XTable.row).length := by rw [List.length_map]; omega
    have hlen2 : ((mkL XTable.mrk XTable.ct k (xs.take i) ++ xs.drop i).map XTable.row).length = xs.length := by rw [List.length_map]; exact hlen
    generalize (mkL XTable.mrk XTable.ct k (xs.take i) ++ xs.drop i).map XTable.row = B at e hB2 hlen2 ⊢
    clear hB1 hlen
    simp only [XTable.row, XTable.mrk, XTable.ct, Int.natCast_add, Int.cast_ofNat_Int, Int.natCast_one] at e
    simp only [XTable.row]
    try simp only [XTable.ct] at hKb
    push_cast [List.length_set, getD_set_eq hB2, getq_set_eq hB2, set_modify, mkL_len, set2]
    refine cnd_dec (fun hlt => ?_) (fun hge => by omega)
    push_cast [List.length_set, getD_set_eq hB2, getq_set_eq hB2, set_modify, mkL_len, set2]
    try simp (disch := omega) only [wrap64]
    repeat (first | refine And.intro (by omega) ?_ | refine And.intro ⟨by omega, by omega⟩ ?_ | refine And.intro ⟨by omega, by omega, by omega⟩ ?_)
    have hc := t_markGroupS (G := G) xs[i].Groups (K) (by omega)
    try simp only [Int.natCast_add, Int.cast_ofNat_Int, Int.natCast_one] at hc
    refine call_ok hc ?_
    clear hc
    push_cast [List.length_set, getD_set_eq hB2, getq_set_eq hB2, set_modify, mkL_len, set2]
    try simp (disch := omega) only [wrap64]
    repeat (first | refine And.intro (by omega) ?_ | refine And.intro ⟨by omega, by omega⟩ ?_ | refine And.intro ⟨by omega, by omega, by omega⟩ ?_)
    refine ⟨i + 1, ?_, by omega, by omega⟩
    have hcl2 := congrArg (fun x : Nat => (x : Int)) hcl
    try simp only [XTable.ct, Int.natCast_add, Int.cast_ofNat_Int, Int.natCast_one] at hcl2
    try simp only [Int.natCast_add, Int.cast_ofNat_Int, Int.natCast_one]
    rw [hcl2, e]
    try simp only [Int.add_assoc]
  · have hi : i = xs.length := by omega
    subst hi
    have hl0 : ((mkL XTable.mrk XTable.ct k (xs.take xs.length) ++ xs.drop xs.length).map XTable.row) = (mkL XTable.mrk XTable.ct k xs).map XTable.row := by simp
    rw [hl0, List.take_length]
    push_cast
    refine cnd_dec (fun hlt => ?_) (fun hge => ?_)
    · rw [mkL_len] at hlt; omega
    push_cast

noncomputable def c_laws_markCallerS : ACode := (.seq (.reg false [⟨none, .tk 4 (.k (.i .i64 0)), []⟩] [0, 1, 16000]) (.seq (.seq (.reg false [⟨none, .asg 5 (.k (.i .i64 0)), []⟩] [0, 1, 5, 16000]) (.block 0 (.loop [0, 1, 5, 16000] (.seq (.seq (.reg false [⟨none, .p 6 (.mv (.t 5)), []⟩, ⟨none, .p 7 (.mv (.t 0)), []⟩, ⟨none, .p 8 (.len false (.t 7)), []⟩, ⟨none, .p 9 (.bin .lss (.t 6) (.t 8)), []⟩] [0, 1, 5, 9, 16000]) (.cond (.t 9) .skip (.exit 0 [1, 16000]))) (.seq (.block 1 (.seq (.reg false [⟨none, .p 12 (.mv (.t 0)), []⟩, ⟨none, .p 13 (.mv (.t 5)), []⟩, ⟨none, .p 14 (.mv (.t 1)), []⟩, ⟨none, .p 15 (.ia (.t 12) (.t 13) 11), []⟩, ⟨none, .p 16 (.fa (.t 15) 0 0), []⟩, ⟨none, .p 17 (.fa (.t 16) 0 0), []⟩, ⟨none, .st (.t 17) (.t 14) 1, []⟩] [0, 1, 5, 16000]) (.seq (.reg false [⟨none, .p 18 (.mv (.t 1)), []⟩, ⟨none, .p 19 (.bin .add (.t 18) (.k (.i .i64 1))), []⟩, ⟨none, .asg 1 (.t 19), []⟩] [0, 1, 5, 16000]) (.seq (.reg false [⟨none, .p 20 (.mv (.t 0)), []⟩, ⟨none, .p 21 (.mv (.t 5)), []⟩, ⟨none, .p 22 (.mv (.t 1)), []⟩, ⟨none, .call (some 23) 50 [.rd (.t 22)], []⟩, ⟨none, .p 24 (.ia (.t 20) (.t 21) 11), []⟩, ⟨none, .p 25 (.fa (.t 24) 0 0), []⟩, ⟨none, .p 26 (.fa (.t 25) 0 1), []⟩, ⟨none, .st (.t 26) (.t 23) 1, []⟩] [0, 1, 5, 16000]) (.seq (.reg false [⟨none, .p 27 (.mv (.t 1)), []⟩, ⟨none, .p 28 (.bin .add (.t 27) (.k (.i .i64 1))), []⟩, ⟨none, .asg 1 (.t 28), []⟩] [0, 1, 5, 16000]) (.seq (.reg false [⟨none, .p 29 (.mv (.t 0)), []⟩, ⟨none, .p 30 (.mv (.t 5)), []⟩, ⟨none, .p 31 (.mv (.t 1)), []⟩, ⟨none, .call (some 32) 50 [.rd (.t 31)], []⟩, ⟨none, .p 33 (.ia (.t 29) (.t 30) 11), []⟩, ⟨none, .p 34 (.fa (.t 33) 0 0), []⟩, ⟨none, .p 35 (.fa (.t 34) 0 2), []⟩, ⟨none, .p 36 (.fa (.t 35) 0 0), []⟩, ⟨none, .st (.t 36) (.t 32) 1, []⟩] [0, 1, 5, 16000]) (.seq (.reg false [⟨none, .p 37 (.mv (.t 1)), []⟩, ⟨none, .p 38 (.bin .add (.t 37) (.k (.i .i64 1))), []⟩, ⟨none, .asg 1 (.t 38), []⟩] [0, 1, 5, 16000]) (.seq (.reg false [⟨none, .p 39 (.mv (.t 0)), []⟩, ⟨none, .p 40 (.mv (.t 5)), []⟩, ⟨none, .p 41 (.mv (.t 1)), []⟩, ⟨none, .p 42 (.bin .rem (.t 41) (.k (.i .i64 3))), []⟩, ⟨none, .p 43 (.bin .eql (.t 42) (.k (.i .i64 0))), []⟩, ⟨none, .p 44 (.ia (.t 39) (.t 40) 11), []⟩, ⟨none, .p 45 (.fa (.t 44) 0 0), []⟩, ⟨none, .p 46 (.fa (.t 45) 0 2), []⟩, ⟨none, .p 47 (.fa (.t 46) 0 1), []⟩, ⟨none, .st (.t 47) (.t 43) 1, []⟩] [0, 1, 5, 16000]) (.seq (.reg false [⟨none, .p 48 (.mv (.t 1)), []⟩, ⟨none, .p 49 (.bin .add (.t 48) (.k (.i .i64 1))), []⟩, ⟨none, .asg 1 (.t 49), []⟩] [0, 1, 5, 16000]) (.seq (.reg false [⟨none, .p 50 (.mv (.t 0)), []⟩, ⟨none, .p 51 (.mv (.t 5)), []⟩, ⟨none, .p 52 (.mv (.t 1)), []⟩, ⟨none, .p 53 (.bin .rem (.t 52) (.k (.i .i64 3))), []⟩, ⟨none, .p 54 (.bin .eql (.t 53) (.k (.i .i64 0))), []⟩, ⟨none, .p 55 (.ia (.t 50) (.t 51) 11), []⟩, ⟨none, .p 56 (.fa (.t 55) 0 0), []⟩, ⟨none, .p 57 (.fa (.t 56) 0 4), []⟩, ⟨none, .st (.t 57) (.t 54) 1, []⟩] [0, 1, 5, 16000]) (.seq (.reg false [⟨none, .p 58 (.mv (.t 1)), []⟩, ⟨none, .p 59 (.bin .add (.t 58) (.k (.i .i64 1))), []⟩, ⟨none, .asg 1 (.t 59), []⟩] [0, 1, 5, 16000]) (.seq (.reg false [⟨none, .p 60 (.mv (.t 0)), []⟩, ⟨none, .p 61 (.mv (.t 5)), []⟩, ⟨none, .p 62 (.ia (.t 60) (.t 61) 11), []⟩, ⟨none, .p 63 (.fa (.t 62) 0 0), []⟩, ⟨none, .p 64 (.fa (.t 63) 0 5), []⟩, ⟨none, .p 65 (.ld (.t 64) 0 1 false), []⟩, ⟨none, .p 66 (.mv (.t 1)), []⟩, ⟨none, .call (some 67) 51 [.ln (.t 65), .rd (.t 66)], []⟩, ⟨none, .asg 1 (.t 67), []⟩] [0, 1, 5, 16000]) (.seq (.reg false [⟨none, .p 68 (.mv (.t 0)), []⟩, ⟨none, .p 69 (.mv (.t 5)), []⟩, ⟨none, .p 70 (.mv (.t 1)), []⟩, ⟨none, .call (some 71) 50 [.rd (.t 70)], []⟩, ⟨none, .p 72 (.ia (.t 68) (.t 69) 11), []⟩, ⟨none, .p 73 (.fa (.t 72) 0 6), []⟩, ⟨none, .p 74 (.fa (.t 73) 0 0), []⟩, ⟨none, .st (.t 74) (.t 71) 1, []⟩] [0, 1, 5, 16000]) (.seq (.reg false [⟨none, .p 75 (.mv (.t 1)), []⟩, ⟨none, .p 76 (.bin .add (.t 75) (.k (.i .i64 1))), []⟩, ⟨none, .asg 1 (.t 76), []⟩] [0, 1, 5, 16000]) (.seq (.reg false [⟨none, .p 77 (.mv (.t 0)), []⟩, ⟨none, .p 78 (.mv (.t 5)), []⟩, ⟨none, .p 79 (.ia (.t 77) (.t 78) 11), []⟩, ⟨none, .p 80 (.fa (.t 79) 0 6), []⟩, ⟨none, .p 81 (.fa (.t 80) 0 1), []⟩, ⟨none, .p 82 (.ld (.t 81) 0 1 false), []⟩, ⟨none, .p 83 (.mv (.t 1)), []⟩, ⟨none, .call (some 84) 51 [.ln (.t 82), .rd (.t 83)], []⟩, ⟨none, .asg 1 (.t 84), []⟩] [0, 1, 5, 16000]) (.seq (.reg false [⟨none, .p 85 (.mv (.t 0)), []⟩, ⟨none, .p 86 (.mv (.t 5)), []⟩, ⟨none, .p 87 (.mv (.t 1)), []⟩, ⟨none, .p 88 (.bin .rem (.t 87) (.k (.i .i64 3))), []⟩, ⟨none, .p 89 (.bin .eql (.t 88) (.k (.i .i64 0))), []⟩, ⟨none, .p 90 (.ia (.t 85) (.t 86) 11), []⟩, ⟨none, .p 91 (.fa (.t 90) 0 6), []⟩, ⟨none, .p 92 (.fa (.t 91) 0 2), []⟩, ⟨none, .st (.t 92) (.t 89) 1, []⟩] [0, 1, 5, 16000]) (.seq (.reg false [⟨none, .p 93 (.mv (.t 1)), []⟩, ⟨none, .p 94 (.bin .add (.t 93) (.k (.i .i64 1))), []⟩, ⟨none, .asg 1 (.t 94), []⟩] [0, 1, 5, 16000]) (.seq (.reg false [⟨none, .p 95 (.mv (.t 0)), []⟩, ⟨none, .p 96 (.mv (.t 5)), []⟩, ⟨none, .p 97 (.mv (.t 1)), []⟩, ⟨none, .call (some 98) 50 [.rd (.t 97)], []⟩, ⟨none, .p 99 (.ia (.t 95) (.t 96) 11), []⟩, ⟨none, .p 100 (.fa (.t 99) 0 9), []⟩, ⟨none, .st (.t 100) (.t 98) 1, []⟩] [0, 1, 5, 16000]) (.seq (.reg false [⟨none, .p 101 (.mv (.t 1)), []⟩, ⟨none, .p 102 (.bin .add (.t 101) (.k (.i .i64 1))), []⟩, ⟨none, .asg 1 (.t 102), []⟩] [0, 1, 5, 16000]) (.reg false [⟨none, .p 103 (.mv (.t 0)), []⟩, ⟨none, .p 104 (.mv (.t 5)), []⟩, ⟨none, .p 105 (.ia (.t 103) (.t 104) 11), []⟩, ⟨none, .p 106 (.fa (.t 105) 0 10), []⟩, ⟨none, .p 107 (.ld (.t 106) 0 1 false), []⟩, ⟨none, .p 108 (.mv (.t 1)), []⟩, ⟨none, .call (some 109) 51 [.ln (.t 107), .rd (.t 108)], []⟩, ⟨none, .asg 1 (.t 109), []⟩] [0, 1, 5, 16000])))))))))))))))))))) (.reg false [⟨none, .p 10 (.mv (.t 5)), []⟩, ⟨none, .p 11 (.bin .add (.t 10) (.k (.i .i64 1))), []⟩, ⟨none, .asg 5 (.t 11), []⟩] [0, 1, 5, 16000])))))) (.seq (.reg false [⟨none, .p 110 (.mv (.t 1)), []⟩, ⟨none, .tk 4 (.t 110), []⟩] [4, 16000]) .ret)))
theorem code_laws_markCallerS : ∃ c, Tryd.f26.body = some c ∧ cfit PP 111 c c_laws_markCallerS = true := by
  refine ⟨_, (rfl : Tryd.f26.body = some _), ?_⟩
  kernel_rfl
theorem t_markCallerS {G : Glob} (xs : List XCaller) (k : Nat) (hk : k + cntL XCaller.ct xs ≤ 1073741824) : FnD PP G 26 [.al 0 false, .val false [.ow (.lit (.int .i64 k))]] [] [(0, [.sl .el 11 (xs.map XCaller.row)])]
    [.v false [.ow (.lit (.int .i64 (k + cntL XCaller.ct xs : Nat)))]] [] [(0, [.sl .el 11 ((mkL XCaller.mrk XCaller.ct k xs).map XCaller.row)])] := by
  refine fn_bd fun hbd => ?_
  have hx : xs.length ≤ 281474976710656 := hbd _ (by simp [hdsA, lenT, Cl.tree])
  clear hbd
  obtain ⟨cc, hb, hcf⟩ := code_laws_markCallerS
  refine fn_ok (fn := Tryd.f26) (specs := [.t 4]) (by kernel_rfl) hb (by show (111:Nat) ≤ 10000; omega) hcf (by kernel_rfl) (by show (2:Nat) ≤ 111; omega) (by simp) (by simp) rfl rfl (by simp) rfl ?_
  simp only [c_laws_markCallerS]
  push_cast
  refine cwp_loop (fun i : Nat => ⟨[(0, .al 0 false), (1, .val false [.ow (.lit (.int .i64 (k + cntL XCaller.ct (xs.take i) : Nat)))]), (5, .val false [.ow (.lit (.int .i64 i))]), (16000, .hid [.sl .el 11 ((mkL XCaller.mrk XCaller.ct k (xs.take i) ++ xs.drop i).map XCaller.row)])], []⟩)
    (fun i => i ≤ xs.length) (fun i => xs.length - i) 0 rfl (by simp [mkL, cntL]; rfl) (by omega) ?_
  intro i hle
  have hlen : (mkL XCaller.mrk XCaller.ct k (xs.take i) ++ xs.drop i).length = xs.length := by rw [List.length_append, mkL_len]; simp; omega
  by_cases hi : i < xs.length
  · have e := mark_step XCaller.row XCaller.mrk XCaller.ct xs k i hi
    have hcl : k + cntL XCaller.ct (xs.take (i + 1)) = (k + cntL XCaller.ct (xs.take i)) + XCaller.ct xs[i] := cnt_step XCaller.ct xs k i hi
    have hKb : (k + cntL XCaller.ct (xs.take i)) + XCaller.ct xs[i] ≤ 1073741824 := Nat.le_trans (cnt_le XCaller.ct xs k i hi) hk
    have hB1 : (mkL XCaller.mrk XCaller.ct k (xs.take i) ++ xs.drop i).map XCaller.row = ((mkL XCaller.mrk XCaller.ct k (xs.take i) ++ xs.drop i).map XCaller.row).set i (XCaller.row xs[i]) := (mark_at XCaller.row XCaller.mrk XCaller.ct xs k i hi).symm
    rw [hB1]
    generalize k + cntL XCaller.ct (xs.take i) = K at hcl hKb e ⊢
    have hB2 : i < ((mkL XCaller.mrk XCaller.ct k (xs.take i) ++ xs.drop i).map XCaller.row).length := by rw [List.length_map]; omega
    have hlen2 : ((mkL XCaller.mrk XCaller.ct k (xs.take i) ++ xs.drop i).map XCaller.row).length = xs.length := by rw [List.length_map]; exact hlen
    generalize (mkL XCaller.mrk XCaller.ct k (xs.take i) ++ xs.drop i).map XCaller.row = B at e hB2 hlen2 ⊢
    clear hB1 hlen
    simp only [XCaller.row, XCaller.mrk, XCaller.ct, Int.natCast_add, Int.cast_ofNat_Int, Int.natCast_one] at e
    simp only [XCaller.row]
    try simp only [XCaller.ct] at hKb
    push_cast [List.length_set, getD_set_eq hB2, getq_set_eq hB2, set_modify, mkL_len, set2]
    refine cnd_dec (fun hlt => ?_) (fun hge => by omega)
    push_cast [List.length_set, getD_set_eq hB2, getq_set_eq hB2, set_modify, mkL_len, set2]
    try simp (disch := omega) only [wrap64]
    repeat (first | refine And.intro (by omega) ?_ | refine And.intro ⟨by omega, by omega⟩ ?_ | refine And.intro ⟨by omega, by omega, by omega⟩ ?_)
    have hc := t_markText (G := G) (K + 1) (by omega)
    try simp only [Int.natCast_add, Int.cast_ofNat_Int, Int.natCast_one] at hc
    refine call_ok hc ?_
    clear hc
    push_cast [List.length_set, getD_set_eq hB2, getq_set_eq hB2, set_modify, mkL_len, set2]
    try simp (disch := omega) only [wrap64]
    repeat (first | refine And.intro (by omega) ?_ | refine And.intro ⟨by omega, by omega⟩ ?_ | refine And.intro ⟨by omega, by omega, by omega⟩ ?_)
    have hc := t_markText (G := G) (K + 1 + 1) (by omega)
    try simp only [Int.natCast_add, Int.cast_ofNat_Int, Int.natCast_one] at hc
    refine call_ok hc ?_
    clear hc
    push_cast [List.length_set, getD_set_eq hB2, getq_set_eq hB2, set_modify, mkL_len, set2]
    try simp (disch := omega) only [wrap64]
    repeat (first | refine And.intro (by omega) ?_ | refine And.intro ⟨by omega, by omega⟩ ?_ | refine And.intro ⟨by omega, by omega, by omega⟩ ?_)
    have hc := t_markStringS (G := G) xs[i].Session.In (K + 1 + 1 + 1 + 1 + 1) (by omega)
    try simp only [Int.natCast_add, Int.cast_ofNat_Int, Int.natCast_one] at hc
    refine call_ok hc ?_
    clear hc
    push_cast [List.length_set, getD_set_eq hB2, getq_set_eq hB2, set_modify, mkL_len, set2]
    try simp (disch := omega) only [wrap64]
    repeat (first | refine And.intro (by omega) ?_ | refine And.intro ⟨by omega, by omega⟩ ?_ | refine And.intro ⟨by omega, by omega, by omega⟩ ?_)
    have hc := t_markText (G := G) (K + 1 + 1 + 1 + 1 + 1 + cntL (fun _ => 1) xs[i].Session.In) (by omega)
    try simp only [Int.natCast_add, Int.cast_ofNat_Int, Int.natCast_one] at hc
    refine call_ok hc ?_
    clear hc
    push_cast [List.length_set, getD_set_eq hB2, getq_set_eq hB2, set_modify, mkL_len, set2]
    try simp (disch := omega) only [wrap64]
    repeat (first | refine And.intro (by omega) ?_ | refine And.intro ⟨by omega, by omega⟩ ?_ | refine And.intro ⟨by omega, by omega, by omega⟩ ?_)
    have hc := t_markStringS (G := G) xs[i].Box.Texts (K + 1 + 1 + 1 + 1 + 1 + cntL (fun _ => 1) xs[i].Session.In + 1) (by omega)
    try simp only [Int.natCast_add, Int.cast_ofNat_Int, Int.natCast_one] at hc
    refine call_ok hc ?_
    clear hc
    push_cast [List.length_set, getD_set_eq hB2, getq_set_eq hB2, set_modify, mkL_len, set2]
    try simp (disch := omega) only [wrap64]
    repeat (first | refine And.intro (by omega) ?_ | refine And.intro ⟨by omega, by omega⟩ ?_ | refine And.intro ⟨by omega, by omega, by omega⟩ ?_)
    have hc := t_markText (G := G) (K + 1 + 1 + 1 + 1 + 1 + cntL (fun _ => 1) xs[i].Session.In + 1 + cntL (fun _ => 1) xs[i].Box.Texts + 1) (by omega)
    try simp only [Int.natCast_add, Int.cast_ofNat_Int, Int.natCast_one] at hc
    refine call_ok hc ?_
    clear hc
    push_cast [List.length_set, getD_set_eq hB2, getq_set_eq hB2, set_modify, mkL_len, set2]
    try simp (disch := omega) only [wrap64]
    repeat (first | refine And.intro (by omega) ?_ | refine And.intro ⟨by omega, by omega⟩ ?_ | refine And.intro ⟨by omega, by omega, by omega⟩ ?_)
    have hc := t_markStringS (G := G) xs[i].Got (K + 1 + 1 + 1 + 1 + 1 + cntL (fun _ => 1) xs[i].Session.In + 1 + cntL (fun _ => 1) xs[i].Box.Texts + 1 + 1) (by omega)
    try simp only [Int.natCast_add, Int.cast_ofNat_Int, Int.natCast_one] at hc
    refine call_ok hc ?_
    clear hc
    push_cast [List.length_set, getD_set_eq hB2, getq_set_eq hB2, set_modify, mkL_len, set2]
    try simp (disch := omega) only [wrap64]
    repeat (first | refine And.intro (by omega) ?_ | refine And.intro ⟨by omega, by omega⟩ ?_ | refine And.intro ⟨by omega, by omega, by omega⟩ ?_)
    refine ⟨i + 1, ?_, by omega, by omega⟩
    have hcl2 := congrArg (fun x : Nat => (x : Int)) hcl
    try simp only [XCaller.ct, Int.natCast_add, Int.cast_ofNat_Int, Int.natCast_one] at hcl2
    try simp only [Int.natCast_add, Int.cast_ofNat_Int, Int.natCast_one]
    rw [hcl2, e]
    try simp only [Int.add_assoc]
  · have hi : i = xs.length := by omega
    subst hi
    have hl0 : ((mkL XCaller.mrk XCaller.ct k (xs.take xs.length) ++ xs.drop xs.length).map XCaller.row) = (mkL XCaller.mrk XCaller.ct k xs).map XCaller.row := by simp
    rw [hl0, List.take_length]
    push_cast
    refine cnd_dec (fun hlt => ?_) (fun hge => ?_)
    · rw [mkL_len] at hlt; omega
    push_cast

noncomputable def c_laws_markWorld : ACode := (.seq (.reg false [⟨none, .box 2 (.t 0), []⟩, ⟨none, .tk 4 (.k (.i .i64 0)), []⟩] [1, 2, 10002, 16000]) (.seq (.reg false [⟨none, .p 5 (.fa (.t 2) 0 0), []⟩, ⟨none, .p 6 (.ld (.t 5) 0 1 false), []⟩, ⟨none, .p 7 (.mv (.t 1)), []⟩, ⟨none, .call (some 8) 10 [.ln (.t 6), .rd (.t 7)], []⟩, ⟨none, .asg 1 (.t 8), []⟩] [1, 2, 10002, 16000]) (.seq (.reg false [⟨none, .p 9 (.fa (.t 2) 0 1), []⟩, ⟨none, .p 10 (.ld (.t 9) 0 1 false), []⟩, ⟨none, .p 11 (.mv (.t 1)), []⟩, ⟨none, .call (some 12) 47 [.ln (.t 10), .rd (.t 11)], []⟩, ⟨none, .asg 1 (.t 12), []⟩] [1, 2, 10002, 16000]) (.seq (.reg false [⟨none, .p 13 (.fa (.t 2) 0 2), []⟩, ⟨none, .p 14 (.ld (.t 13) 0 1 false), []⟩, ⟨none, .p 15 (.mv (.t 1)), []⟩, ⟨none, .call (some 16) 48 [.ln (.t 14), .rd (.t 15)], []⟩, ⟨none, .asg 1 (.t 16), []⟩] [1, 2, 10002, 16000]) (.seq (.reg false [⟨none, .p 17 (.fa (.t 2) 0 3), []⟩, ⟨none, .p 18 (.ld (.t 17) 0 1 false), []⟩, ⟨none, .p 19 (.mv (.t 1)), []⟩, ⟨none, .call (some 20) 49 [.ln (.t 18), .rd (.t 19)], []⟩, ⟨none, .asg 1 (.t 20), []⟩] [1, 16000]) (.seq (.reg false [⟨none, .p 21 (.mv (.t 1)), []⟩, ⟨none, .tk 4 (.t 21), []⟩] [4, 16000]) .ret))))))
theorem code_laws_markWorld : ∃ c, Tryd.f25.body = some c ∧ cfit PP 22 c c_laws_markWorld = true := by
  refine ⟨_, (rfl : Tryd.f25.body = some _), ?_⟩
  kernel_rfl
def XWorld.el (a : XWorld) : Row := [.sl .el 2 (a.Rings.map XRing.row), .sl .el 24 (a.Daemons.map XDaemon.row), .sl .el 17 (a.Letters.map XLetter.row), .sl .el 8 (a.Numbered.map XEvent.row)]
theorem t_markWorld {G : Glob} (a : XWorld) (k : Nat) (hk : k + a.vct ≤ 1073741824) : FnD PP G 25 [.al 0 true, .val false [.ow (.lit (.int .i64 k))]] [] [(0, a.el)]
    [.v false [.ow (.lit (.int .i64 (k + a.vct : Nat)))]] [] [(0, (XWorld.vmk k a).el)] := by
  simp only [XWorld.el, XWorld.vmk, XWorld.vct, Int.natCast_add, Int.cast_ofNat_Int, Int.natCast_one] at hk ⊢
  refine fn_al ?_
  simp only [List.map_cons, List.map_nil, vwRow, vwC, Nat.reduceAdd]
  obtain ⟨cc, hb, hcf⟩ := code_laws_markWorld
  refine fn_ok (fn := Tryd.f25) (specs := [.t 4]) (by kernel_rfl) hb (by show (22:Nat) ≤ 10000; omega) hcf (by kernel_rfl) (by show (2:Nat) ≤ 22; omega) (by simp) (by simp) rfl rfl (by simp) rfl ?_
  simp only [c_laws_markWorld]
  push_cast
  have hc := t_markRingS (G := G) a.Rings (k) (by first | omega | (simp only [Nat.add_zero] ; omega))
  try simp only [Int.natCast_add, Int.cast_ofNat_Int, Int.natCast_one] at hc
  refine call_ok hc ?_
  clear hc
  push_cast [mkL_len]
  have hc := t_markDaemonS (G := G) a.Daemons (k + cntL XRing.ct a.Rings) (by first | omega | (simp only [Nat.add_zero] ; omega))
  try simp only [Int.natCast_add, Int.cast_ofNat_Int, Int.natCast_one] at hc
  refine call_ok hc ?_
  clear hc
  push_cast [mkL_len]
  have hc := t_markLetterS (G := G) a.Letters (k + cntL XRing.ct a.Rings + cntL XDaemon.ct a.Daemons) (by first | omega | (simp only [Nat.add_zero] ; omega))
  try simp only [Int.natCast_add, Int.cast_ofNat_Int, Int.natCast_one] at hc
  refine call_ok hc ?_
  clear hc
  push_cast [mkL_len]
  have hc := t_markEventS (G := G) a.Numbered (k + cntL XRing.ct a.Rings + cntL XDaemon.ct a.Daemons + cntL XLetter.ct a.Letters) (by first | omega | (simp only [Nat.add_zero] ; omega))
  try simp only [Int.natCast_add, Int.cast_ofNat_Int, Int.natCast_one] at hc
  refine call_ok hc ?_
  clear hc
  push_cast [mkL_len]
  try simp [Int.add_assoc, Nat.add_assoc]

noncomputable def c_laws_markHall : ACode := (.seq (.reg false [⟨none, .box 2 (.t 0), []⟩, ⟨none, .tk 4 (.k (.i .i64 0)), []⟩] [1, 2, 10002, 16000]) (.seq (.reg false [⟨none, .p 5 (.fa (.t 2) 0 0), []⟩, ⟨none, .p 6 (.ld (.t 5) 0 4 true), []⟩, ⟨none, .p 7 (.mv (.t 1)), []⟩, ⟨none, .call (some 8) 25 [.ln (.t 6), .rd (.t 7)], []⟩, ⟨none, .asg 1 (.t 8), []⟩] [1, 2, 10002, 16000]) (.seq (.reg false [⟨none, .p 9 (.fa (.t 2) 0 4), []⟩, ⟨none, .p 10 (.ld (.t 9) 0 1 false), []⟩, ⟨none, .p 11 (.mv (.t 1)), []⟩, ⟨none, .call (some 12) 26 [.ln (.t 10), .rd (.t 11)], []⟩, ⟨none, .asg 1 (.t 12), []⟩] [1, 2, 10002, 16000]) (.seq (.reg false [⟨none, .p 13 (.fa (.t 2) 0 5), []⟩, ⟨none, .p 14 (.ld (.t 13) 0 1 false), []⟩, ⟨none, .p 15 (.mv (.t 1)), []⟩, ⟨none, .call (some 16) 27 [.ln (.t 14), .rd (.t 15)], []⟩, ⟨none, .asg 1 (.t 16), []⟩] [1, 2, 10002, 16000]) (.seq (.reg false [⟨none, .p 17 (.fa (.t 2) 0 6), []⟩, ⟨none, .p 18 (.ld (.t 17) 0 1 false), []⟩, ⟨none, .p 19 (.mv (.t 1)), []⟩, ⟨none, .call (some 20) 24 [.ln (.t 18), .rd (.t 19)], []⟩, ⟨none, .asg 1 (.t 20), []⟩] [1, 16000]) (.seq (.reg false [⟨none, .p 21 (.mv (.t 1)), []⟩, ⟨none, .tk 4 (.t 21), []⟩] [4, 16000]) .ret))))))
theorem code_laws_markHall : ∃ c, Tryd.f11.body = some c ∧ cfit PP 22 c c_laws_markHall = true := by
  refine ⟨_, (rfl : Tryd.f11.body = some _), ?_⟩
  kernel_rfl
def XHall.el (a : XHall) : Row := [.sl .el 2 (a.World.Rings.map XRing.row), .sl .el 24 (a.World.Daemons.map XDaemon.row), .sl .el 17 (a.World.Letters.map XLetter.row), .sl .el 8 (a.World.Numbered.map XEvent.row), .sl .el 11 (a.Callers.map XCaller.row), .sl .el 1 (a.Tables.map XTable.row), .sl .el 1 (a.Seen.map intR)]
theorem t_markHall {G : Glob} (a : XHall) (k : Nat) (hk : k + a.vct ≤ 1073741824) : FnD PP G 11 [.al 0 true, .val false [.ow (.lit (.int .i64 k))]] [] [(0, a.el)]
    [.v false [.ow (.lit (.int .i64 (k + a.vct : Nat)))]] [] [(0, (XHall.vmk k a).el)] := by
  simp only [XHall.el, XHall.vmk, XHall.vct, Int.natCast_add, Int.cast_ofNat_Int, Int.natCast_one] at hk ⊢
  refine fn_al ?_
  simp only [List.map_cons, List.map_nil, vwRow, vwC, Nat.reduceAdd]
  obtain ⟨cc, hb, hcf⟩ := code_laws_markHall
  refine fn_ok (fn := Tryd.f11) (specs := [.t 4]) (by kernel_rfl) hb (by show (22:Nat) ≤ 10000; omega) hcf (by kernel_rfl) (by show (2:Nat) ≤ 22; omega) (by simp) (by simp) rfl rfl (by simp) rfl ?_
  simp only [c_laws_markHall]
  push_cast
  have hc := t_markWorld (G := G) a.World (k) (by first | omega | (simp only [XWorld.vct] ; omega))
  simp only [XWorld.el, XWorld.vmk, XWorld.vct] at hc
  try simp only [Int.natCast_add, Int.cast_ofNat_Int, Int.natCast_one] at hc
  refine call_ok hc ?_
  clear hc
  push_cast [mkL_len]
  have hc := t_markCallerS (G := G) a.Callers (k + (cntL XRing.ct a.World.Rings + cntL XDaemon.ct a.World.Daemons + cntL XLetter.ct a.World.Letters + cntL XEvent.ct a.World.Numbered)) (by first | omega | (simp only [Nat.add_zero] ; omega))
  try simp only [Int.natCast_add, Int.cast_ofNat_Int, Int.natCast_one] at hc
  refine call_ok hc ?_
  clear hc
  push_cast [mkL_len]
  have hc := t_markTableS (G := G) a.Tables (k + (cntL XRing.ct a.World.Rings + cntL XDaemon.ct a.World.Daemons + cntL XLetter.ct a.World.Letters + cntL XEvent.ct a.World.Numbered) + cntL XCaller.ct a.Callers) (by first | omega | (simp only [Nat.add_zero] ; omega))
  try simp only [Int.natCast_add, Int.cast_ofNat_Int, Int.natCast_one] at hc
  refine call_ok hc ?_
  clear hc
  push_cast [mkL_len]
  have hc := t_markIntS (G := G) a.Seen (k + (cntL XRing.ct a.World.Rings + cntL XDaemon.ct a.World.Daemons + cntL XLetter.ct a.World.Letters + cntL XEvent.ct a.World.Numbered) + cntL XCaller.ct a.Callers + cntL XTable.ct a.Tables) (by first | omega | (simp only [Nat.add_zero] ; omega))
  try simp only [Int.natCast_add, Int.cast_ofNat_Int, Int.natCast_one] at hc
  refine call_ok hc ?_
  clear hc
  push_cast [mkL_len]
  try simp [Int.add_assoc, Nat.add_assoc]

end Go.Eng
