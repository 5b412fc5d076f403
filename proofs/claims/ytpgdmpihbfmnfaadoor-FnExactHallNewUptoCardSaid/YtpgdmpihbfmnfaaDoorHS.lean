/- Harness: printed by hgen.py. -/
import Derived.Test.YtpgdmpihbfmnfaaDoorHA
import Derived.Test.YtpgdmpihbfmnfaaDoorE3
import Derived.Shelf.Slices.In.Clone
import Derived.Shelf.Slices.Clone
import Derived.Shelf.Strconv.Itoa3
set_option linter.unusedSimpArgs false
set_option linter.unusedVariables false
set_option maxRecDepth 100000
namespace Go.Eng
open Go.Proofs
noncomputable def c_laws_szIntS : ACode := (.seq (.reg false [⟨none, .tk 4 (.k (.i .i64 0)), []⟩] [0, 1]) (.seq (.reg false [⟨none, .p 5 (.mv (.t 1)), []⟩, ⟨none, .p 6 (.mv (.t 0)), []⟩, ⟨none, .p 7 (.len false (.t 6)), []⟩, ⟨none, .p 8 (.bin .sub (.t 5) (.t 7)), []⟩, ⟨none, .asg 1 (.t 8), []⟩] [1]) (.seq (.seq (.reg false [⟨none, .p 9 (.mv (.t 1)), []⟩, ⟨none, .p 10 (.bin .lss (.t 9) (.k (.i .i64 0))), []⟩] [1, 10]) (.cond (.t 10) (.seq (.reg false [⟨none, .tk 4 (.k (.i .i64 (-1))), []⟩] [4]) .ret) .skip)) (.seq (.reg false [⟨none, .p 11 (.mv (.t 1)), []⟩, ⟨none, .tk 4 (.t 11), []⟩] [4]) .ret))))
theorem code_laws_szIntS : ∃ c, Tryd.f32.body = some c ∧ cfit PP 12 c c_laws_szIntS = true := by
  refine ⟨_, (rfl : Tryd.f32.body = some _), ?_⟩
  kernel_rfl
theorem t_szIntS {G : Glob} (xs : List Int) (n : Int) (h1 : ((xs.length : Nat) : Int) ≤ n) (h2 : n ≤ 1048576) : FnD PP G 32 [.val false [.vw none [] (.sl .ow 1 (xs.map intR))], .val false [.ow (.lit (.int .i64 n))]] [] []
    [.v false [.ow (.lit (.int .i64 (n - (xs.length : Nat))))]] [] [] := by
  obtain ⟨cc, hb, hcf⟩ := code_laws_szIntS
  refine fn_ok (fn := Tryd.f32) (specs := [.t 4]) (by kernel_rfl) hb (by show (12:Nat) ≤ 10000; omega) hcf (by kernel_rfl) (by show (2:Nat) ≤ 12; omega) (by simp) (by simp) rfl rfl (by simp) rfl ?_
  simp only [c_laws_szIntS]
  push_cast
  rw [wrap64 (by omega) (by omega)]
  refine cnd_dec (fun hne => by omega) (fun _ => ?_)
  push_cast

noncomputable def c_laws_szRing : ACode := (.seq (.reg false [⟨none, .box 2 (.t 0), []⟩, ⟨none, .tk 4 (.k (.i .i64 0)), []⟩] [1, 2, 10002]) (.seq (.reg false [⟨none, .p 5 (.fa (.t 2) 0 1), []⟩, ⟨none, .p 6 (.ld (.t 5) 0 1 false), []⟩, ⟨none, .p 7 (.mv (.t 1)), []⟩, ⟨none, .call (some 8) 32 [.rd (.t 6), .rd (.t 7)], []⟩, ⟨none, .asg 1 (.t 8), []⟩] [1]) (.seq (.seq (.reg false [⟨none, .p 9 (.mv (.t 1)), []⟩, ⟨none, .p 10 (.bin .lss (.t 9) (.k (.i .i64 0))), []⟩] [1, 10]) (.cond (.t 10) (.seq (.reg false [⟨none, .tk 4 (.k (.i .i64 (-1))), []⟩] [4]) .ret) .skip)) (.seq (.reg false [⟨none, .p 11 (.mv (.t 1)), []⟩, ⟨none, .tk 4 (.t 11), []⟩] [4]) .ret))))
theorem code_laws_szRing : ∃ c, Tryd.f13.body = some c ∧ cfit PP 12 c c_laws_szRing = true := by
  refine ⟨_, (rfl : Tryd.f13.body = some _), ?_⟩
  kernel_rfl
theorem t_szRing {G : Glob} (a : XRing) (n : Int) (h1 : (a.ms : Int) ≤ n) (h2 : n ≤ 1048576) : FnD PP G 13 [.val true a.vw, .val false [.ow (.lit (.int .i64 n))]] [] []
    [.v false [.ow (.lit (.int .i64 (n - a.ms)))]] [] [] := by
  obtain ⟨cc, hb, hcf⟩ := code_laws_szRing
  refine fn_ok (fn := Tryd.f13) (specs := [.t 4]) (by kernel_rfl) hb (by show (12:Nat) ≤ 10000; omega) hcf (by kernel_rfl) (by show (2:Nat) ≤ 12; omega) (by simp) (by simp) rfl rfl (by simp) rfl ?_
  simp only [c_laws_szRing]
  simp only [XRing.vw]
  simp only [XRing.ms, Int.natCast_add] at h1 ⊢
  push_cast
  have hc := t_szIntS (G := G) a.Members (n) (by omega) (by omega)
  refine call_ok hc ?_
  clear hc
  push_cast
  refine cnd_dec (fun hne => by omega) (fun _ => ?_)
  push_cast
  try simp only [show n - ((a.Members.length : Nat) : Int) = n - (((a.Members.length : Nat) : Int)) from by omega]

noncomputable def c_laws_szRingS : ACode := (.seq (.reg false [⟨none, .tk 4 (.k (.i .i64 0)), []⟩] [0, 1]) (.seq (.reg false [⟨none, .p 6 (.mv (.t 1)), []⟩, ⟨none, .p 7 (.mv (.t 0)), []⟩, ⟨none, .p 8 (.len false (.t 7)), []⟩, ⟨none, .p 9 (.bin .sub (.t 6) (.t 8)), []⟩, ⟨none, .asg 1 (.t 9), []⟩] [0, 1]) (.seq (.seq (.reg false [⟨none, .p 10 (.mv (.t 1)), []⟩, ⟨none, .p 11 (.bin .lss (.t 10) (.k (.i .i64 0))), []⟩] [0, 1, 11]) (.cond (.t 11) (.seq (.reg false [⟨none, .tk 4 (.k (.i .i64 (-1))), []⟩] [4]) .ret) .skip)) (.seq (.seq (.reg false [⟨none, .asg 5 (.k (.i .i64 0)), []⟩] [0, 1, 5]) (.block 0 (.loop [0, 1, 5] (.seq (.seq (.reg false [⟨none, .p 12 (.mv (.t 5)), []⟩, ⟨none, .p 13 (.mv (.t 0)), []⟩, ⟨none, .p 14 (.len false (.t 13)), []⟩, ⟨none, .p 15 (.bin .lss (.t 12) (.t 14)), []⟩] [0, 1, 5, 15]) (.cond (.t 15) .skip (.exit 0 [1]))) (.seq (.block 1 (.seq (.reg false [⟨none, .p 18 (.mv (.t 0)), []⟩, ⟨none, .p 19 (.mv (.t 5)), []⟩, ⟨none, .p 20 (.ia (.t 18) (.t 19) 2), []⟩, ⟨none, .p 21 (.ld (.t 20) 0 2 true), []⟩, ⟨none, .p 22 (.mv (.t 1)), []⟩, ⟨none, .call (some 23) 13 [.rd (.t 21), .rd (.t 22)], []⟩, ⟨none, .asg 1 (.t 23), []⟩] [0, 1, 5]) (.seq (.reg false [⟨none, .p 24 (.mv (.t 1)), []⟩, ⟨none, .p 25 (.bin .lss (.t 24) (.k (.i .i64 0))), []⟩] [0, 1, 5, 25]) (.cond (.t 25) (.seq (.reg false [⟨none, .tk 4 (.k (.i .i64 (-1))), []⟩] [4]) .ret) .skip)))) (.reg false [⟨none, .p 16 (.mv (.t 5)), []⟩, ⟨none, .p 17 (.bin .add (.t 16) (.k (.i .i64 1))), []⟩, ⟨none, .asg 5 (.t 17), []⟩] [0, 1, 5])))))) (.seq (.reg false [⟨none, .p 26 (.mv (.t 1)), []⟩, ⟨none, .tk 4 (.t 26), []⟩] [4]) .ret)))))
theorem code_laws_szRingS : ∃ c, Tryd.f4.body = some c ∧ cfit PP 27 c c_laws_szRingS = true := by
  refine ⟨_, (rfl : Tryd.f4.body = some _), ?_⟩
  kernel_rfl
theorem t_szRingS {G : Glob} (xs : List XRing) (n : Int) (h1 : ((msL XRing.ms xs : Nat) : Int) ≤ n) (h2 : n ≤ 1048576) : FnD PP G 4 [.val false [.vw none [] (.sl .ow 2 (xs.map XRing.row))], .val false [.ow (.lit (.int .i64 n))]] [] []
    [.v false [.ow (.lit (.int .i64 (n - (msL XRing.ms xs : Nat))))]] [] [] := by
  obtain ⟨cc, hb, hcf⟩ := code_laws_szRingS
  refine fn_ok (fn := Tryd.f4) (specs := [.t 4]) (by kernel_rfl) hb (by show (27:Nat) ≤ 10000; omega) hcf (by kernel_rfl) (by show (2:Nat) ≤ 27; omega) (by simp) (by simp) rfl rfl (by simp) rfl ?_
  simp only [c_laws_szRingS]
  simp only [msL, Int.natCast_add] at h1 ⊢
  push_cast
  rw [wrap64 (by omega) (by omega)]
  refine cnd_dec (fun hne => by omega) (fun _ => ?_)
  push_cast
  refine cwp_loop (fun i : Nat => ⟨[(0, .val false [.vw none [] (.sl .ow 2 (xs.map XRing.row))]), (1, .val false [.ow (.lit (.int .i64 (n - xs.length - (((xs.take i).map XRing.ms).sum : Nat))))]), (5, .val false [.ow (.lit (.int .i64 i))])], []⟩)
    (fun i => i ≤ xs.length) (fun i => xs.length - i) 0 rfl (by simp [St.norm, nmL, nmA, nmC, St.get, getL, keyB, nmPl, nmKs]) (by omega) ?_
  intro i hle
  push_cast
  refine cnd_dec (fun hlt => ?_) (fun hge => ?_)
  · have hi : i < xs.length := by omega
    have hs := sum_take XRing.ms xs i hi
    have hs2 := sum_le XRing.ms xs (i + 1)
    push_cast
    · skip
      push_cast [getD_map hi, XRing.row]
      refine ⟨⟨by omega, by omega⟩, ?_⟩
      have hc := t_szRing (G := G) xs[i] (n - xs.length - (((xs.take i).map XRing.ms).sum : Nat)) (by omega) (by omega)
      simp only [XRing.vw] at hc
      refine call_ok hc ?_
      clear hc
      push_cast
      refine cnd_dec (fun hne => by omega) (fun _ => ?_)
      push_cast
      refine ⟨i + 1, ?_, by omega, by omega⟩
      rw [wrap64 (by omega) (by omega), hs]
      simp [Int.sub_sub, Int.add_assoc]
  · have hi : i = xs.length := by omega
    subst hi
    push_cast
    simp [Int.sub_sub]

end Go.Eng

set_option maxRecDepth 100000
namespace Go.Eng
open Go.Proofs
noncomputable def c_laws_toIntS : ACode := (.seq (.reg false [⟨none, .tk 2 (.k (.nl 1)), []⟩] [0]) (.seq (.reg false [⟨none, .p 5 (.mv (.t 0)), []⟩, ⟨none, .p 6 (.len false (.t 5)), []⟩, ⟨none, .mks 7 (.t 6) (.t 6) [.i .i64 0] 8, []⟩, ⟨none, .asg 3 (.t 7), []⟩] [0, 3]) (.seq (.seq (.reg false [⟨none, .asg 4 (.k (.i .i64 0)), []⟩] [0, 3, 4]) (.block 0 (.loop [0, 3, 4] (.seq (.seq (.reg false [⟨none, .p 8 (.mv (.t 4)), []⟩, ⟨none, .p 9 (.mv (.t 0)), []⟩, ⟨none, .p 10 (.len false (.t 9)), []⟩, ⟨none, .p 11 (.bin .lss (.t 8) (.t 10)), []⟩] [0, 3, 4, 11]) (.cond (.t 11) .skip (.exit 0 [3]))) (.seq (.block 1 (.reg false [⟨none, .p 14 (.mv (.t 3)), []⟩, ⟨none, .p 15 (.mv (.t 4)), []⟩, ⟨none, .p 16 (.mv (.t 0)), []⟩, ⟨none, .p 17 (.mv (.t 4)), []⟩, ⟨none, .p 18 (.ia (.t 16) (.t 17) 1), []⟩, ⟨none, .p 19 (.ld (.t 18) 0 1 false), []⟩, ⟨none, .p 20 (.ia (.t 14) (.t 15) 1), []⟩, ⟨none, .st (.t 20) (.t 19) 1, []⟩] [0, 3, 4])) (.reg false [⟨none, .p 12 (.mv (.t 4)), []⟩, ⟨none, .p 13 (.bin .add (.t 12) (.k (.i .i64 1))), []⟩, ⟨none, .asg 4 (.t 13), []⟩] [0, 3, 4])))))) (.seq (.reg false [⟨none, .p 21 (.mv (.t 3)), []⟩, ⟨none, .tk 2 (.t 21), []⟩] [2]) .ret))))
theorem code_laws_toIntS : ∃ c, Tryd.f37.body = some c ∧ cfit PP 22 c c_laws_toIntS = true := by
  refine ⟨_, (rfl : Tryd.f37.body = some _), ?_⟩
  kernel_rfl
theorem t_toIntS {G : Glob} (xs : List Int) (hm : xs.length ≤ 1048576) : FnD PP G 37 [.val false [.vw none [] (.sl .ow 1 (xs.map intR))]] [] [] [.v false [.ow (.sl .ow 1 (xs.map intR))]] [] [] := by
  obtain ⟨cc, hb, hcf⟩ := code_laws_toIntS
  refine fn_ok (fn := Tryd.f37) (specs := [.t 2]) (by kernel_rfl) hb (by show (22:Nat) ≤ 10000; omega) hcf (by kernel_rfl) (by show (1:Nat) ≤ 22; omega) (by simp) (by simp) rfl rfl (by simp) rfl ?_
  simp only [c_laws_toIntS]
  try simp only [msL] at hm
  push_cast
  refine ⟨⟨by omega, by omega, by omega⟩, ?_⟩
  have hrep : List.replicate xs.length [T.lit (.int .i64 0)] = (xs.take 0 ++ List.replicate (xs.length - 0) 0).map intR := by
    simp only [List.take_zero, List.nil_append, Nat.sub_zero, List.map_replicate]
    rfl
  rw [hrep]
  clear hrep
  refine cwp_loop (fun i : Nat => ⟨[(0, .val false [.vw none [] (.sl .ow 1 (xs.map intR))]), (3, .val false [.ow (.sl .ow 1 ((xs.take i ++ List.replicate (xs.length - i) 0).map intR))]), (4, .val false [.ow (.lit (.int .i64 i))])], []⟩)
    (fun i => i ≤ xs.length) (fun i => xs.length - i) 0 rfl (by simp [St.norm, nmL, nmA, nmC, St.get, getL, keyB, nmPl, nmKs]) (by omega) ?_
  intro i hle
  push_cast
  refine cnd_dec (fun hlt => ?_) (fun hge => ?_)
  · have hi : i < xs.length := by omega
    have hl : (xs.take i ++ List.replicate (xs.length - i) 0).length = xs.length := by simp; omega
    have hi2 : i < (xs.take i ++ List.replicate (xs.length - i) 0).length := by omega
    push_cast [getD_map hi, getD_map hi2, intR]
    repeat (first | refine And.intro (by omega) ?_ | refine And.intro ⟨by omega, by omega⟩ ?_ | refine And.intro ⟨by omega, by omega, by omega⟩ ?_)
    refine ⟨i + 1, ?_, by omega, by omega⟩
    rw [wrap64 (by omega) (by omega)]
    rw [modf intR _ i xs[i] (fun a => rfl), copy_step 0 hi]
    simp
  · have hi : i = xs.length := by omega
    subst hi
    have e : xs.take xs.length ++ List.replicate (xs.length - xs.length) 0 = xs := by simp
    rw [e]
    push_cast
    try rw [show xs.length = (xs.map intR).length by simp, List.take_length]

noncomputable def c_laws_toRing : ACode := (.seq (.reg false [⟨none, .box 1 (.t 0), []⟩, ⟨none, .alloc 2 [.i .i64 0, .nl 1], []⟩] [1, 2, 10001, 10002]) (.seq (.reg false [⟨none, .alloc 3 [.i .i64 0, .nl 1], []⟩] [1, 2, 3, 10001, 10002, 10003]) (.seq (.reg false [⟨none, .p 4 (.fa (.t 1) 0 0), []⟩, ⟨none, .p 5 (.ld (.t 4) 0 1 false), []⟩, ⟨none, .p 6 (.fa (.t 3) 0 0), []⟩, ⟨none, .st (.t 6) (.t 5) 1, []⟩] [1, 2, 3, 10001, 10002, 10003]) (.seq (.reg false [⟨none, .p 7 (.fa (.t 1) 0 1), []⟩, ⟨none, .p 8 (.ld (.t 7) 0 1 false), []⟩, ⟨none, .call (some 9) 37 [.rd (.t 8)], []⟩, ⟨none, .p 10 (.fa (.t 3) 0 1), []⟩, ⟨none, .st (.t 10) (.t 9) 1, []⟩] [2, 3, 10002, 10003]) (.seq (.reg false [⟨none, .p 11 (.ld (.t 3) 0 2 true), []⟩, ⟨none, .st (.t 2) (.t 11) 2, []⟩] [2, 10002]) .ret)))))
theorem code_laws_toRing : ∃ c, Tryd.f16.body = some c ∧ cfit PP 12 c c_laws_toRing = true := by
  refine ⟨_, (rfl : Tryd.f16.body = some _), ?_⟩
  kernel_rfl
theorem t_toRing {G : Glob} (a : XRing) (hm : a.ms ≤ 1048576) : FnD PP G 16 [.val true a.vw] [] [] [.v true a.own] [] [] := by
  obtain ⟨cc, hb, hcf⟩ := code_laws_toRing
  refine fn_ok (fn := Tryd.f16) (specs := [.c 2 2]) (by kernel_rfl) hb (by show (12:Nat) ≤ 10000; omega) hcf (by kernel_rfl) (by show (1:Nat) ≤ 12; omega) (by simp) (by simp) rfl rfl (by simp) rfl ?_
  simp only [c_laws_toRing]
  simp only [XRing.ms] at hm
  simp only [XRing.vw, XRing.own]
  push_cast
  have hc := t_toIntS (G := G) a.Members (by omega)
  refine call_ok hc ?_
  clear hc
  push_cast

noncomputable def c_laws_toRingS : ACode := (.seq (.reg false [⟨none, .tk 2 (.k (.nl 2)), []⟩] [0]) (.seq (.reg false [⟨none, .p 5 (.mv (.t 0)), []⟩, ⟨none, .p 6 (.len false (.t 5)), []⟩, ⟨none, .mks 7 (.t 6) (.t 6) [.i .i64 0, .nl 1] 32, []⟩, ⟨none, .asg 3 (.t 7), []⟩] [0, 3]) (.seq (.seq (.reg false [⟨none, .asg 4 (.k (.i .i64 0)), []⟩] [0, 3, 4]) (.block 0 (.loop [0, 3, 4] (.seq (.seq (.reg false [⟨none, .p 8 (.mv (.t 4)), []⟩, ⟨none, .p 9 (.mv (.t 0)), []⟩, ⟨none, .p 10 (.len false (.t 9)), []⟩, ⟨none, .p 11 (.bin .lss (.t 8) (.t 10)), []⟩] [0, 3, 4, 11]) (.cond (.t 11) .skip (.exit 0 [3]))) (.seq (.block 1 (.reg false [⟨none, .p 14 (.mv (.t 3)), []⟩, ⟨none, .p 15 (.mv (.t 4)), []⟩, ⟨none, .p 16 (.mv (.t 0)), []⟩, ⟨none, .p 17 (.mv (.t 4)), []⟩, ⟨none, .p 18 (.ia (.t 16) (.t 17) 2), []⟩, ⟨none, .p 19 (.ld (.t 18) 0 2 true), []⟩, ⟨none, .call (some 20) 16 [.rd (.t 19)], []⟩, ⟨none, .p 21 (.ia (.t 14) (.t 15) 2), []⟩, ⟨none, .st (.t 21) (.t 20) 2, []⟩] [0, 3, 4])) (.reg false [⟨none, .p 12 (.mv (.t 4)), []⟩, ⟨none, .p 13 (.bin .add (.t 12) (.k (.i .i64 1))), []⟩, ⟨none, .asg 4 (.t 13), []⟩] [0, 3, 4])))))) (.seq (.reg false [⟨none, .p 22 (.mv (.t 3)), []⟩, ⟨none, .tk 2 (.t 22), []⟩] [2]) .ret))))
theorem code_laws_toRingS : ∃ c, Tryd.f6.body = some c ∧ cfit PP 23 c c_laws_toRingS = true := by
  refine ⟨_, (rfl : Tryd.f6.body = some _), ?_⟩
  kernel_rfl
theorem t_toRingS {G : Glob} (xs : List XRing) (hm : msL XRing.ms xs ≤ 1048576) : FnD PP G 6 [.val false [.vw none [] (.sl .ow 2 (xs.map XRing.row))]] [] [] [.v false [.ow (.sl .ow 2 (xs.map XRing.row))]] [] [] := by
  obtain ⟨cc, hb, hcf⟩ := code_laws_toRingS
  refine fn_ok (fn := Tryd.f6) (specs := [.t 2]) (by kernel_rfl) hb (by show (23:Nat) ≤ 10000; omega) hcf (by kernel_rfl) (by show (1:Nat) ≤ 23; omega) (by simp) (by simp) rfl rfl (by simp) rfl ?_
  simp only [c_laws_toRingS]
  try simp only [msL] at hm
  push_cast
  refine ⟨⟨by omega, by omega, by omega⟩, ?_⟩
  have hrep : List.replicate xs.length [T.lit (.int .i64 0), T.sl .ow 1 []] = (xs.take 0 ++ List.replicate (xs.length - 0) XRing.zero).map XRing.row := by
    simp only [List.take_zero, List.nil_append, Nat.sub_zero, List.map_replicate]
    rfl
  rw [hrep]
  clear hrep
  refine cwp_loop (fun i : Nat => ⟨[(0, .val false [.vw none [] (.sl .ow 2 (xs.map XRing.row))]), (3, .val false [.ow (.sl .ow 2 ((xs.take i ++ List.replicate (xs.length - i) XRing.zero).map XRing.row))]), (4, .val false [.ow (.lit (.int .i64 i))])], []⟩)
    (fun i => i ≤ xs.length) (fun i => xs.length - i) 0 rfl (by simp [St.norm, nmL, nmA, nmC, St.get, getL, keyB, nmPl, nmKs]) (by omega) ?_
  intro i hle
  push_cast
  refine cnd_dec (fun hlt => ?_) (fun hge => ?_)
  · have hi : i < xs.length := by omega
    have hl : (xs.take i ++ List.replicate (xs.length - i) XRing.zero).length = xs.length := by simp; omega
    have hi2 : i < (xs.take i ++ List.replicate (xs.length - i) XRing.zero).length := by omega
    push_cast [getD_map hi, XRing.row]
    refine ⟨⟨by omega, by omega⟩, ?_⟩
    have hc := t_toRing (G := G) xs[i] (by have := sum_mem XRing.ms xs i hi; omega)
    simp only [XRing.vw, XRing.own] at hc
    refine call_ok hc ?_
    clear hc
    push_cast [getD_map hi2, XRing.row]
    repeat (first | refine And.intro (by omega) ?_ | refine And.intro ⟨by omega, by omega⟩ ?_ | refine And.intro ⟨by omega, by omega, by omega⟩ ?_)
    refine ⟨i + 1, ?_, by omega, by omega⟩
    rw [wrap64 (by omega) (by omega)]
    rw [modf XRing.row _ i xs[i] (fun a => rfl), copy_step XRing.zero hi]
    simp
  · have hi : i = xs.length := by omega
    subst hi
    have e : xs.take xs.length ++ List.replicate (xs.length - xs.length) XRing.zero = xs := by simp
    rw [e]
    push_cast
    try rw [show xs.length = (xs.map XRing.row).length by simp, List.take_length]

end Go.Eng

set_option maxRecDepth 100000
namespace Go.Proofs
open Go.Shelf
def Tryd.cloneI_ren : Go.Shelf.Ren := ⟨fun | 15 => 64 | n => n, fun | 22 => 32 | 3 => 3 | 4 => 4 | n => n, fun | n => n⟩
theorem Tryd.cloneI : Go.Proofs.Lays2.n15 Tryd.prog Tryd.cloneI_ren := {
  mixed := by kernel_rfl,
  f15 := Tryd.func64.trans (congrArg some (by kernel_rfl)),
  t3 := Tryd.underlying3,
  a3 := Tryd.isAgg3,
  z3 := Tryd.sizeOf3,
  v3 := Tryd.zeroValue3,
  t4 := Tryd.underlying4,
  a4 := Tryd.isAgg4,
  z4 := Tryd.sizeOf4,
  v4 := Tryd.zeroValue4,
  t22 := Tryd.underlying32,
  a22 := Tryd.isAgg32,
  z22 := Tryd.sizeOf32,
  v22 := Tryd.zeroValue32,
  i3 := by kernel_rfl }
end Go.Proofs

namespace Go.Proofs
open Go.Shelf
def Tryd.itoa_ren : Go.Shelf.Ren := ⟨fun | 171 => 41 | 243 => 66 | 246 => 78 | 283 => 86 | 284 => 87 | 285 => 88 | 286 => 89 | 129 => 92 | 317 => 91 | 318 => 93 | 319 => 94 | 320 => 95 | 337 => 96 | 338 => 97 | n => n, fun | 3 => 3 | 9 => 9 | 2 => 2 | 4 => 4 | 171 => 128 | 0 => 0 | 53 => 129 | 37 => 85 | 5 => 5 | 173 => 132 | 212 => 137 | 51 => 138 | 20 => 20 | 213 => 139 | 46 => 140 | 232 => 143 | 233 => 144 | n => n, fun | 17 => 0 | 18 => 1 | 19 => 2 | n => n⟩
theorem Tryd.itoa : Go.Proofs.Lays.n171 Tryd.prog Tryd.itoa_ren := {
  mixed := by kernel_rfl,
  f129 := Tryd.func92.trans (congrArg some (by kernel_rfl)),
  f171 := Tryd.func41.trans (congrArg some (by kernel_rfl)),
  f243 := Tryd.func66.trans (congrArg some (by kernel_rfl)),
  f246 := Tryd.func78.trans (congrArg some (by kernel_rfl)),
  f283 := Tryd.func86.trans (congrArg some (by kernel_rfl)),
  f284 := Tryd.func87.trans (congrArg some (by kernel_rfl)),
  f285 := Tryd.func88.trans (congrArg some (by kernel_rfl)),
  f286 := Tryd.func89.trans (congrArg some (by kernel_rfl)),
  f317 := Tryd.func91.trans (congrArg some (by kernel_rfl)),
  f318 := Tryd.func93.trans (congrArg some (by kernel_rfl)),
  f319 := Tryd.func94.trans (congrArg some (by kernel_rfl)),
  f320 := Tryd.func95.trans (congrArg some (by kernel_rfl)),
  f337 := Tryd.func96.trans (congrArg some (by kernel_rfl)),
  f338 := Tryd.func97.trans (congrArg some (by kernel_rfl)),
  t0 := Tryd.underlying0,
  a0 := Tryd.isAgg0,
  z0 := Tryd.sizeOf0,
  v0 := Tryd.zeroValue0,
  t2 := Tryd.underlying2,
  a2 := Tryd.isAgg2,
  z2 := Tryd.sizeOf2,
  v2 := Tryd.zeroValue2,
  t3 := Tryd.underlying3,
  a3 := Tryd.isAgg3,
  z3 := Tryd.sizeOf3,
  v3 := Tryd.zeroValue3,
  t4 := Tryd.underlying4,
  a4 := Tryd.isAgg4,
  z4 := Tryd.sizeOf4,
  v4 := Tryd.zeroValue4,
  t5 := Tryd.underlying5,
  a5 := Tryd.isAgg5,
  z5 := Tryd.sizeOf5,
  v5 := Tryd.zeroValue5,
  t9 := Tryd.underlying9,
  a9 := Tryd.isAgg9,
  z9 := Tryd.sizeOf9,
  v9 := Tryd.zeroValue9,
  t20 := Tryd.underlying20,
  a20 := Tryd.isAgg20,
  z20 := Tryd.sizeOf20,
  v20 := Tryd.zeroValue20,
  t37 := Tryd.underlying85,
  a37 := Tryd.isAgg85,
  z37 := Tryd.sizeOf85,
  v37 := Tryd.zeroValue85,
  t46 := Tryd.underlying140,
  a46 := Tryd.isAgg140,
  z46 := Tryd.sizeOf140,
  v46 := Tryd.zeroValue140,
  t51 := Tryd.underlying138,
  a51 := Tryd.isAgg138,
  z51 := Tryd.sizeOf138,
  v51 := Tryd.zeroValue138,
  t53 := Tryd.underlying129,
  a53 := Tryd.isAgg129,
  z53 := Tryd.sizeOf129,
  v53 := Tryd.zeroValue129,
  t171 := Tryd.underlying128,
  a171 := Tryd.isAgg128,
  z171 := Tryd.sizeOf128,
  v171 := Tryd.zeroValue128,
  t173 := Tryd.underlying132,
  a173 := Tryd.isAgg132,
  z173 := Tryd.sizeOf132,
  v173 := Tryd.zeroValue132,
  t212 := Tryd.underlying137,
  a212 := Tryd.isAgg137,
  z212 := Tryd.sizeOf137,
  v212 := Tryd.zeroValue137,
  t213 := Tryd.underlying139,
  a213 := Tryd.isAgg139,
  z213 := Tryd.sizeOf139,
  t232 := Tryd.underlying143,
  a232 := Tryd.isAgg143,
  z232 := Tryd.sizeOf143,
  v232 := Tryd.zeroValue143,
  t233 := Tryd.underlying144,
  a233 := Tryd.isAgg144,
  z233 := Tryd.sizeOf144,
  v233 := Tryd.zeroValue144,
  g17 := by kernel_rfl,
  g18 := by kernel_rfl,
  g19 := by kernel_rfl }
end Go.Proofs

namespace Go.Eng
open Go.Proofs
theorem ent_lit {g : Ghost} {w : World} {As : List A} {mems : List Row} {hids : List (Nat × Row)} {vs : List Value} (h : Ent g w As mems hids vs) {i : Nat} {v : Value} (hi : As[i]? = some (.val false [.ow (.lit v)])) : vs[i]? = some v := by
  have h1 := h.args i _ hi
  have h2 : ClR [] g w i 0 (.ow (.lit v)) (vs.toArray.getD i undef) := h1
  have h3 := h2.hd.1
  have hlt : i < vs.length := by rw [h.len]; exact (List.getElem?_eq_some_iff.1 hi).1
  rw [List.getElem?_eq_getElem hlt]
  rw [Array.getD_eq_getD_getElem?, List.getElem?_toArray, List.getElem?_eq_getElem hlt] at h3
  simpa using h3
theorem ent_ints {g : Ghost} {w : World} {As : List A} {mems : List Row} {hids : List (Nat × Row)} {vs : List Value} {xs : List Int} (h : Ent g w As mems hids vs) {i : Nat} (hi : As[i]? = some (.val false [.vw none [] (.sl .ow 1 (xs.map intR))])) :
    ∃ v, vs[i]? = some v ∧ ((∃ a c, v = .slice a 0 c ∧ xs = []) ∨ ∃ b off c, v = .slice (some ⟨b, off, none⟩) xs.length c ∧ ∀ j, j < xs.length → w.cell? ⟨b, off + j, none⟩ = some (.int .i64 (xs.getD j 0))) := by
  have h1 := h.args i _ hi
  have h2 : ClR [] g w i 0 (.vw none [] (.sl .ow 1 (xs.map intR))) (vs.toArray.getD i undef) := h1
  have hlt : i < vs.length := by rw [h.len]; exact (List.getElem?_eq_some_iff.1 hi).1
  rw [Array.getD_eq_getD_getElem?, List.getElem?_toArray, List.getElem?_eq_getElem hlt] at h2
  refine ⟨vs[i], List.getElem?_eq_getElem hlt, ?_⟩
  have h3 := (h2.2 (fun k hk => by cases hk)).1
  simp only [Option.getD_some] at h3
  generalize vs[i] = v at h3
  generalize hr : xs.map intR = rows at h3
  cases h3 with
  | emp fz sz a cap =>
    left
    exact ⟨_, _, rfl, by simpa using hr⟩
  | sl fz rows b off cap sz arr e fr hb hl hg hs hn hle hc =>
    right
    subst hr
    refine ⟨b, off, cap, by simp, fun j hj => ?_⟩
    have := hc j 0 (.lit (.int .i64 (xs.getD j 0))) (by simp [get2, hj, intR, List.getD])
    generalize hu : arr.getD (off + j * 1 + 0) undef = u at this
    cases this
    rw [Nat.mul_one, Nat.add_zero] at hu
    have hlt2 : off + j < arr.size := by rw [List.length_map] at hs; omega
    rw [Array.getD_eq_getD_getElem?, Array.getElem?_eq_getElem hlt2] at hu
    simp only [Option.getD_some] at hu
    show (match w.heap[b]? with | some (.cells c _ _) => if (none : Option _).isSome then none else c[off + j]? | _ => none) = _
    rw [hb]
    simp only [Option.isSome_none, Bool.false_eq_true, if_false]
    rw [Array.getElem?_eq_getElem hlt2, hu]
theorem t_CloneI {G : Glob} (xs : List Int) (hm : xs.length ≤ 1048576) : FnD PP G 64 [.val false [.vw none [] (.sl .ow 1 (xs.map intR))]] [] [] [.v false [.ow (.sl .ow 1 (xs.map intR))]] [] [] := by
  refine fnd_fresh (ty := Tryd.cloneI_ren.t 3) (by omega) (fun r hr => by obtain ⟨a, _, rfl⟩ := List.mem_map.1 hr; rfl) (flat_int xs) (fun u hu => by
    simp only [cellsR, List.mem_flatMap, List.mem_map] at hu
    obtain ⟨r, ⟨a, _, rfl⟩, hu⟩ := hu
    simp [intR, cellV] at hu; subst hu; rfl) (by simp; omega) (fun a ha => by simp at ha; subst ha; intro o; cases o <;> simp [ownAt, ownC]) rfl ?_
  intro w g vs hgl hent
  obtain ⟨v, hv, hcase⟩ := ent_ints hent (i := 0) rfl
  have hlen := hent.len
  have hvs : vs.toArray = #[v] := by
    match vs, hlen with
    | [a], _ => simp at hv; subst hv; rfl
  rw [hvs]
  have hcl : cellsR (xs.map intR) = xs.map (Value.int .i64) := by
    clear hcase hm hent hv hlen
    induction xs with
    | nil => rfl
    | cons x l ih => simp only [cellsR, List.map_cons, List.flatMap_cons] at ih ⊢; rw [ih]; rfl
  rw [hcl]
  simp only [List.length_map]
  rcases hcase with ⟨a, c, rfl, rfl⟩ | ⟨b, off, c, rfl, hc⟩
  · cases a with
    | none =>
      refine (Any.slices_Clone_int_nil Tryd.cloneI 0 c w).mono fun e w' ⟨he, hw⟩ => ?_
      subst hw
      exact ⟨_, he, World.ownsRow_nil _ _ _ _, Go.RowKit.Below.refl _ _⟩
    | some a =>
      have h : Calls PP _ #[.slice (some a) 0 c] w _ := fun cs => by
        obtain ⟨e, w', fr, r, s, x⟩ := (AnyS.slices_Clone_int_zero_in Tryd.cloneI (cs.length + 1) a c w).2 cs (fun d hd => by cases hd; omega)
        exact ⟨e, w', fr, r, s.comes, x⟩
      refine h.mono fun e w' ⟨v', he, h1, _, h2⟩ => ?_
      exact ⟨v', he, h1, h2⟩
  · refine (Any.slices_Clone_int Tryd.cloneI b off xs.length c xs w (Nat.le_refl _) (by omega) hc).mono fun e w' ⟨v', he, h1, _, h2⟩ => ?_
    rw [List.take_length] at h1
    exact ⟨v', he, h1, h2⟩
/-- A function that returns a literal, and else makes at most new blocks. -/
theorem fnd_lit {P : Program} {G : Glob} {As : List A} {f : FuncId} {v : Value} (h1 : v.oneCell' = true) (hp : plainAs As) (hm : As.all argB = true)
    (H : ∀ w g vs, glR G g w → Ent g w As [] [] vs → Calls P f vs.toArray w fun e w' => e = .returned v ∧ Go.RowKit.Below w.heap.size w w') : FnD P G f As [] [] [.v false [.ow (.lit v)]] [] [] := by
  intro w g vs hgl hent
  refine (H w g vs hgl hent).mono fun e w' ⟨he, hbel⟩ => ?_
  have hst : Step (Wr g) w w' := below_step hbel
  exact ⟨_, g, he, ⟨hent.inj, fun b k l hl => Nat.lt_of_lt_of_le (hent.old b k l hl) hst.size, hst, fun b k _ hn => hn, fun b k l _ => Iff.rfl, fun b k r o h3 h4 h5 => h5, .lit _ _ h1, fun j row hj => by simp at hj, fun q hq => by cases hq⟩⟩
theorem dig10 : ∀ n, n < 10 → (⟨(Lib.decDigits n).toArray⟩ : ByteArray) = byteB (48 + n) := by decide +kernel
theorem t_Itoa {G : Glob} (n : Nat) (hn : n < 10) : FnD PP G 41 [.val false [.ow (.lit (.int .i64 n))]] [] [] [.v false [.ow (.lit (.string (byteB (48 + n))))]] [] [] := by
  refine fnd_lit rfl (fun a ha => by simp at ha; subst ha; intro o; cases o <;> rfl) rfl ?_
  intro w g vs hgl hent
  have h1 := ent_lit hent (i := 0) (v := .int .i64 n) rfl
  have hlen := hent.len
  have hvs : vs.toArray = #[.int .i64 n] := by
    match vs, hlen with
    | [a], _ => simp at h1; subst h1; rfl
  rw [hvs]
  refine (Any.strconv_Itoa_small Tryd.itoa n (by omega) w).mono fun e w' ⟨he, hw⟩ => ?_
  subst hw
  rw [dig10 n hn] at he
  exact ⟨he, Go.RowKit.Below.refl _ _⟩
end Go.Eng
