/- Harness: printed by hgen.py. -/
import Derived.Test.YtpgdmpihbfmnfaaDoorHA
set_option linter.unusedSimpArgs false
set_option linter.unusedVariables false
set_option maxRecDepth 100000
namespace Go.Eng
open Go.Proofs
noncomputable def c_laws_eqStringS : ACode := (.seq (.reg false [⟨none, .tk 4 (.k (.b false)), []⟩] [0, 1]) (.seq (.seq (.reg false [⟨none, .p 6 (.mv (.t 0)), []⟩, ⟨none, .p 7 (.len false (.t 6)), []⟩, ⟨none, .p 8 (.mv (.t 1)), []⟩, ⟨none, .p 9 (.len false (.t 8)), []⟩, ⟨none, .p 10 (.bin .neq (.t 7) (.t 9)), []⟩] [0, 1, 10]) (.cond (.t 10) (.seq (.reg false [⟨none, .tk 4 (.k (.b false)), []⟩] [4]) .ret) .skip)) (.seq (.seq (.reg false [⟨none, .asg 5 (.k (.i .i64 0)), []⟩] [0, 1, 5]) (.block 0 (.loop [0, 1, 5] (.seq (.seq (.reg false [⟨none, .p 11 (.mv (.t 5)), []⟩, ⟨none, .p 12 (.mv (.t 0)), []⟩, ⟨none, .p 13 (.len false (.t 12)), []⟩, ⟨none, .p 14 (.bin .lss (.t 11) (.t 13)), []⟩] [0, 1, 5, 14]) (.cond (.t 14) .skip (.exit 0 []))) (.seq (.block 1 (.seq (.reg true [⟨none, .p 17 (.mv (.t 0)), []⟩, ⟨none, .p 18 (.mv (.t 5)), []⟩, ⟨none, .p 19 (.ia (.t 17) (.t 18) 1), [0, 1]⟩, ⟨none, .p 20 (.ld (.t 19) 0 1 false), [2]⟩, ⟨none, .p 21 (.mv (.t 1)), []⟩, ⟨none, .p 22 (.mv (.t 5)), []⟩, ⟨none, .p 23 (.ia (.t 21) (.t 22) 1), [4, 5]⟩, ⟨none, .p 24 (.ld (.t 23) 0 1 false), [6]⟩, ⟨none, .p 25 (.bin .neq (.t 20) (.t 24)), [3, 7]⟩] [0, 1, 5, 25]) (.cond (.t 25) (.seq (.reg false [⟨none, .tk 4 (.k (.b false)), []⟩] [4]) .ret) .skip))) (.reg false [⟨none, .p 15 (.mv (.t 5)), []⟩, ⟨none, .p 16 (.bin .add (.t 15) (.k (.i .i64 1))), []⟩, ⟨none, .asg 5 (.t 16), []⟩] [0, 1, 5])))))) (.seq (.reg false [⟨none, .tk 4 (.k (.b true)), []⟩] [4]) .ret))))
theorem code_laws_eqStringS : ∃ c, Tryd.f72.body = some c ∧ cfit PP 26 c c_laws_eqStringS = true := by
  refine ⟨_, (rfl : Tryd.f72.body = some _), ?_⟩
  kernel_rfl
theorem t_eqStringS {G : Glob} (xs ys : List ByteArray) : FnD PP G 72 [.val false [.vw none [] (.sl .ow 1 (xs.map strR))], .val false [.vw none [] (.sl .ow 1 (ys.map strR))]] [] []
    [.v false [.ow (.lit (.bool (decide (xs = ys))))]] [] [] := by
  refine fn_bd fun hbd => ?_
  have hx : xs.length ≤ 281474976710656 := hbd _ (by simp [hdsA, lenT, Cl.tree])
  clear hbd
  obtain ⟨cc, hb, hcf⟩ := code_laws_eqStringS
  refine fn_ok (fn := Tryd.f72) (specs := [.t 4]) (by kernel_rfl) hb (by show (26:Nat) ≤ 10000; omega) hcf (by kernel_rfl) (by show (2:Nat) ≤ 26; omega) (by simp) (by simp) rfl rfl (by simp) rfl ?_
  simp only [c_laws_eqStringS]
  push_cast
  refine cnd_dec (fun hne => ?_) (fun heq => ?_)
  · push_cast
    have : xs ≠ ys := fun e => hne (by rw [e])
    simp [this]
  · have hl : xs.length = ys.length := by omega
    push_cast
    refine cwp_loop (fun i : Nat => ⟨[(0, .val false [.vw none [] (.sl .ow 1 (xs.map strR))]), (1, .val false [.vw none [] (.sl .ow 1 (ys.map strR))]), (5, .val false [.ow (.lit (.int .i64 i))])], []⟩)
      (fun i => i ≤ xs.length ∧ xs.take i = ys.take i) (fun i => xs.length - i) 0 rfl rfl ⟨by omega, by simp⟩ ?_
    rintro i ⟨h1, h2⟩
    push_cast
    refine cnd_dec (fun hlt => ?_) (fun hge => ?_)
    · have hi : i < xs.length := by simpa using hlt
      have hi' : i < ys.length := by omega
      push_cast
      refine draw_any ?_
      push_cast [getD_map hi, getD_map hi', strR]
      refine ⟨⟨by omega, by omega⟩, ⟨by omega, by omega⟩, by kernel_rfl, cnd_dec (fun he => ?_) (fun hne => ?_)⟩
      · push_cast
        have : xs ≠ ys := fun e => he (by subst e; rfl)
        simp [this]
      · push_cast
        refine ⟨i + 1, ?_, ⟨by omega, ?_⟩, by omega⟩
        · rw [wrap64 (by omega) (by omega)]; rfl
        · have he : xs[i] = ys[i] := Classical.not_not.1 hne
          rw [List.take_succ_eq_append_getElem hi, List.take_succ_eq_append_getElem hi', h2, he]
    · have hi : i = xs.length := by simp at hge; omega
      subst hi
      push_cast
      have : xs = ys := by rw [List.take_length, hl, List.take_length] at h2; exact h2
      simp [this]

noncomputable def c_laws_eqIntS : ACode := (.seq (.reg false [⟨none, .tk 4 (.k (.b false)), []⟩] [0, 1]) (.seq (.seq (.reg false [⟨none, .p 6 (.mv (.t 0)), []⟩, ⟨none, .p 7 (.len false (.t 6)), []⟩, ⟨none, .p 8 (.mv (.t 1)), []⟩, ⟨none, .p 9 (.len false (.t 8)), []⟩, ⟨none, .p 10 (.bin .neq (.t 7) (.t 9)), []⟩] [0, 1, 10]) (.cond (.t 10) (.seq (.reg false [⟨none, .tk 4 (.k (.b false)), []⟩] [4]) .ret) .skip)) (.seq (.seq (.reg false [⟨none, .asg 5 (.k (.i .i64 0)), []⟩] [0, 1, 5]) (.block 0 (.loop [0, 1, 5] (.seq (.seq (.reg false [⟨none, .p 11 (.mv (.t 5)), []⟩, ⟨none, .p 12 (.mv (.t 0)), []⟩, ⟨none, .p 13 (.len false (.t 12)), []⟩, ⟨none, .p 14 (.bin .lss (.t 11) (.t 13)), []⟩] [0, 1, 5, 14]) (.cond (.t 14) .skip (.exit 0 []))) (.seq (.block 1 (.seq (.reg true [⟨none, .p 17 (.mv (.t 0)), []⟩, ⟨none, .p 18 (.mv (.t 5)), []⟩, ⟨none, .p 19 (.ia (.t 17) (.t 18) 1), [0, 1]⟩, ⟨none, .p 20 (.ld (.t 19) 0 1 false), [2]⟩, ⟨none, .p 21 (.mv (.t 1)), []⟩, ⟨none, .p 22 (.mv (.t 5)), []⟩, ⟨none, .p 23 (.ia (.t 21) (.t 22) 1), [4, 5]⟩, ⟨none, .p 24 (.ld (.t 23) 0 1 false), [6]⟩, ⟨none, .p 25 (.bin .neq (.t 20) (.t 24)), [3, 7]⟩] [0, 1, 5, 25]) (.cond (.t 25) (.seq (.reg false [⟨none, .tk 4 (.k (.b false)), []⟩] [4]) .ret) .skip))) (.reg false [⟨none, .p 15 (.mv (.t 5)), []⟩, ⟨none, .p 16 (.bin .add (.t 15) (.k (.i .i64 1))), []⟩, ⟨none, .asg 5 (.t 16), []⟩] [0, 1, 5])))))) (.seq (.reg false [⟨none, .tk 4 (.k (.b true)), []⟩] [4]) .ret))))
theorem code_laws_eqIntS : ∃ c, Tryd.f22.body = some c ∧ cfit PP 26 c c_laws_eqIntS = true := by
  refine ⟨_, (rfl : Tryd.f22.body = some _), ?_⟩
  kernel_rfl
theorem t_eqIntS {G : Glob} (xs ys : List Int) : FnD PP G 22 [.val false [.vw none [] (.sl .ow 1 (xs.map intR))], .val false [.vw none [] (.sl .ow 1 (ys.map intR))]] [] []
    [.v false [.ow (.lit (.bool (decide (xs = ys))))]] [] [] := by
  refine fn_bd fun hbd => ?_
  have hx : xs.length ≤ 281474976710656 := hbd _ (by simp [hdsA, lenT, Cl.tree])
  clear hbd
  obtain ⟨cc, hb, hcf⟩ := code_laws_eqIntS
  refine fn_ok (fn := Tryd.f22) (specs := [.t 4]) (by kernel_rfl) hb (by show (26:Nat) ≤ 10000; omega) hcf (by kernel_rfl) (by show (2:Nat) ≤ 26; omega) (by simp) (by simp) rfl rfl (by simp) rfl ?_
  simp only [c_laws_eqIntS]
  push_cast
  refine cnd_dec (fun hne => ?_) (fun heq => ?_)
  · push_cast
    have : xs ≠ ys := fun e => hne (by rw [e])
    simp [this]
  · have hl : xs.length = ys.length := by omega
    push_cast
    refine cwp_loop (fun i : Nat => ⟨[(0, .val false [.vw none [] (.sl .ow 1 (xs.map intR))]), (1, .val false [.vw none [] (.sl .ow 1 (ys.map intR))]), (5, .val false [.ow (.lit (.int .i64 i))])], []⟩)
      (fun i => i ≤ xs.length ∧ xs.take i = ys.take i) (fun i => xs.length - i) 0 rfl rfl ⟨by omega, by simp⟩ ?_
    rintro i ⟨h1, h2⟩
    push_cast
    refine cnd_dec (fun hlt => ?_) (fun hge => ?_)
    · have hi : i < xs.length := by simpa using hlt
      have hi' : i < ys.length := by omega
      push_cast
      refine draw_any ?_
      push_cast [getD_map hi, getD_map hi', intR]
      refine ⟨⟨by omega, by omega⟩, ⟨by omega, by omega⟩, by kernel_rfl, cnd_dec (fun he => ?_) (fun hne => ?_)⟩
      · push_cast
        have : xs ≠ ys := fun e => he (by subst e; rfl)
        simp [this]
      · push_cast
        refine ⟨i + 1, ?_, ⟨by omega, ?_⟩, by omega⟩
        · rw [wrap64 (by omega) (by omega)]; rfl
        · have he : xs[i] = ys[i] := Classical.not_not.1 hne
          rw [List.take_succ_eq_append_getElem hi, List.take_succ_eq_append_getElem hi', h2, he]
    · have hi : i = xs.length := by simp at hge; omega
      subst hi
      push_cast
      have : xs = ys := by rw [List.take_length, hl, List.take_length] at h2; exact h2
      simp [this]

noncomputable def c_laws_eqRing : ACode := (.seq (.reg false [⟨none, .box 2 (.t 0), []⟩, ⟨none, .box 3 (.t 1), []⟩, ⟨none, .tk 4 (.k (.b false)), []⟩] [2, 3, 10002, 10003]) (.seq (.seq (.reg false [⟨none, .p 5 (.fa (.t 2) 0 0), []⟩, ⟨none, .p 6 (.ld (.t 5) 0 1 false), []⟩, ⟨none, .p 7 (.fa (.t 3) 0 0), []⟩, ⟨none, .p 8 (.ld (.t 7) 0 1 false), []⟩, ⟨none, .p 9 (.bin .neq (.t 6) (.t 8)), []⟩] [2, 3, 9, 10002, 10003]) (.cond (.t 9) (.seq (.reg false [⟨none, .tk 4 (.k (.b false)), []⟩] [4]) .ret) .skip)) (.seq (.seq (.reg false [⟨none, .p 10 (.fa (.t 2) 0 1), []⟩, ⟨none, .p 11 (.ld (.t 10) 0 1 false), []⟩, ⟨none, .p 12 (.fa (.t 3) 0 1), []⟩, ⟨none, .p 13 (.ld (.t 12) 0 1 false), []⟩, ⟨none, .call (some 14) 22 [.rd (.t 11), .rd (.t 13)], []⟩, ⟨none, .p 15 (.un .not (.t 14)), []⟩] [15]) (.cond (.t 15) (.seq (.reg false [⟨none, .tk 4 (.k (.b false)), []⟩] [4]) .ret) .skip)) (.seq (.reg false [⟨none, .tk 4 (.k (.b true)), []⟩] [4]) .ret))))
theorem code_laws_eqRing : ∃ c, Tryd.f23.body = some c ∧ cfit PP 16 c c_laws_eqRing = true := by
  refine ⟨_, (rfl : Tryd.f23.body = some _), ?_⟩
  kernel_rfl
theorem t_eqRing {G : Glob} (a b : XRing) : FnD PP G 23 [.val true a.vw, .val true b.vw] [] []
    [.v false [.ow (.lit (.bool (decide (a = b))))]] [] [] := by
  obtain ⟨cc, hb, hcf⟩ := code_laws_eqRing
  refine fn_ok (fn := Tryd.f23) (specs := [.t 4]) (by kernel_rfl) hb (by show (16:Nat) ≤ 10000; omega) hcf (by kernel_rfl) (by show (2:Nat) ≤ 16; omega) (by simp) (by simp) rfl rfl (by simp) rfl ?_
  simp only [c_laws_eqRing]
  simp only [XRing.vw]
  push_cast
  refine cnd_dec (fun hne => ?_) (fun he0 => ?_)
  · push_cast
    have : a ≠ b := fun e => hne (by rw [e])
    simp [this]
  have he0 : a.Id = b.Id := Classical.not_not.1 he0
  push_cast
  have hc := t_eqIntS (G := G) a.Members b.Members
  refine call_ok hc ?_
  clear hc
  push_cast
  refine cnd_dec (fun hne => ?_) (fun he1 => ?_)
  · push_cast
    have : a ≠ b := fun e => hne (by rw [e])
    simp [this]
  have he1 : a.Members = b.Members := Classical.not_not.1 he1
  push_cast
  have : a = b := by
    cases a; cases b
    simp only at he0 he1
    simp only [he0, he1]
  simp [this]

noncomputable def c_laws_eqRingS : ACode := (.seq (.reg false [⟨none, .tk 4 (.k (.b false)), []⟩] [0, 1]) (.seq (.seq (.reg false [⟨none, .p 6 (.mv (.t 0)), []⟩, ⟨none, .p 7 (.len false (.t 6)), []⟩, ⟨none, .p 8 (.mv (.t 1)), []⟩, ⟨none, .p 9 (.len false (.t 8)), []⟩, ⟨none, .p 10 (.bin .neq (.t 7) (.t 9)), []⟩] [0, 1, 10]) (.cond (.t 10) (.seq (.reg false [⟨none, .tk 4 (.k (.b false)), []⟩] [4]) .ret) .skip)) (.seq (.seq (.reg false [⟨none, .asg 5 (.k (.i .i64 0)), []⟩] [0, 1, 5]) (.block 0 (.loop [0, 1, 5] (.seq (.seq (.reg false [⟨none, .p 11 (.mv (.t 5)), []⟩, ⟨none, .p 12 (.mv (.t 0)), []⟩, ⟨none, .p 13 (.len false (.t 12)), []⟩, ⟨none, .p 14 (.bin .lss (.t 11) (.t 13)), []⟩] [0, 1, 5, 14]) (.cond (.t 14) .skip (.exit 0 []))) (.seq (.block 1 (.seq (.reg true [⟨none, .p 17 (.mv (.t 0)), []⟩, ⟨none, .p 18 (.mv (.t 5)), []⟩, ⟨none, .p 19 (.ia (.t 17) (.t 18) 2), [0, 1]⟩, ⟨none, .p 20 (.ld (.t 19) 0 2 true), [2]⟩, ⟨none, .p 21 (.mv (.t 1)), []⟩, ⟨none, .p 22 (.mv (.t 5)), []⟩, ⟨none, .p 23 (.ia (.t 21) (.t 22) 2), [4, 5]⟩, ⟨none, .p 24 (.ld (.t 23) 0 2 true), [6]⟩, ⟨none, .call (some 25) 23 [.rd (.t 20), .rd (.t 24)], [3, 7]⟩, ⟨none, .p 26 (.un .not (.t 25)), [8]⟩] [0, 1, 5, 26]) (.cond (.t 26) (.seq (.reg false [⟨none, .tk 4 (.k (.b false)), []⟩] [4]) .ret) .skip))) (.reg false [⟨none, .p 15 (.mv (.t 5)), []⟩, ⟨none, .p 16 (.bin .add (.t 15) (.k (.i .i64 1))), []⟩, ⟨none, .asg 5 (.t 16), []⟩] [0, 1, 5])))))) (.seq (.reg false [⟨none, .tk 4 (.k (.b true)), []⟩] [4]) .ret))))
theorem code_laws_eqRingS : ∃ c, Tryd.f9.body = some c ∧ cfit PP 27 c c_laws_eqRingS = true := by
  refine ⟨_, (rfl : Tryd.f9.body = some _), ?_⟩
  kernel_rfl
theorem t_eqRingS {G : Glob} (xs ys : List XRing) : FnD PP G 9 [.val false [.vw none [] (.sl .ow 2 (xs.map XRing.row))], .val false [.vw none [] (.sl .ow 2 (ys.map XRing.row))]] [] []
    [.v false [.ow (.lit (.bool (decide (xs = ys))))]] [] [] := by
  refine fn_bd fun hbd => ?_
  have hx : xs.length ≤ 281474976710656 := hbd _ (by simp [hdsA, lenT, Cl.tree])
  clear hbd
  obtain ⟨cc, hb, hcf⟩ := code_laws_eqRingS
  refine fn_ok (fn := Tryd.f9) (specs := [.t 4]) (by kernel_rfl) hb (by show (27:Nat) ≤ 10000; omega) hcf (by kernel_rfl) (by show (2:Nat) ≤ 27; omega) (by simp) (by simp) rfl rfl (by simp) rfl ?_
  simp only [c_laws_eqRingS]
  push_cast
  refine cnd_dec (fun hne => ?_) (fun heq => ?_)
  · push_cast
    have : xs ≠ ys := fun e => hne (by rw [e])
    simp [this]
  · have hl : xs.length = ys.length := by omega
    push_cast
    refine cwp_loop (fun i : Nat => ⟨[(0, .val false [.vw none [] (.sl .ow 2 (xs.map XRing.row))]), (1, .val false [.vw none [] (.sl .ow 2 (ys.map XRing.row))]), (5, .val false [.ow (.lit (.int .i64 i))])], []⟩)
      (fun i => i ≤ xs.length ∧ xs.take i = ys.take i) (fun i => xs.length - i) 0 rfl rfl ⟨by omega, by simp⟩ ?_
    rintro i ⟨h1, h2⟩
    push_cast
    refine cnd_dec (fun hlt => ?_) (fun hge => ?_)
    · have hi : i < xs.length := by simpa using hlt
      have hi' : i < ys.length := by omega
      push_cast
      refine draw_any ?_
      push_cast [getD_map hi, getD_map hi', XRing.row]
      refine ⟨⟨by omega, by omega⟩, ⟨by omega, by omega⟩, ?_⟩
      have hc := t_eqRing (G := G) xs[i] ys[i]
      simp only [XRing.vw] at hc
      refine call_ok hc ?_
      push_cast
      refine ⟨by kernel_rfl, cnd_dec (fun he => ?_) (fun hne => ?_)⟩
      · push_cast
        have : xs ≠ ys := fun e => he (by subst e; rfl)
        simp [this]
      · push_cast
        refine ⟨i + 1, ?_, ⟨by omega, ?_⟩, by omega⟩
        · rw [wrap64 (by omega) (by omega)]; rfl
        · have he : xs[i] = ys[i] := Classical.not_not.1 hne
          rw [List.take_succ_eq_append_getElem hi, List.take_succ_eq_append_getElem hi', h2, he]
    · have hi : i = xs.length := by simp at hge; omega
      subst hi
      push_cast
      have : xs = ys := by rw [List.take_length, hl, List.take_length] at h2; exact h2
      simp [this]

noncomputable def c_laws_eqItem : ACode := (.seq (.reg false [⟨none, .box 2 (.t 0), []⟩, ⟨none, .box 3 (.t 1), []⟩, ⟨none, .tk 4 (.k (.b false)), []⟩] [2, 3, 10002, 10003]) (.seq (.seq (.reg false [⟨none, .p 5 (.fa (.t 2) 0 0), []⟩, ⟨none, .p 6 (.ld (.t 5) 0 1 false), []⟩, ⟨none, .p 7 (.fa (.t 3) 0 0), []⟩, ⟨none, .p 8 (.ld (.t 7) 0 1 false), []⟩, ⟨none, .p 9 (.bin .neq (.t 6) (.t 8)), []⟩] [2, 3, 9, 10002, 10003]) (.cond (.t 9) (.seq (.reg false [⟨none, .tk 4 (.k (.b false)), []⟩] [4]) .ret) .skip)) (.seq (.seq (.reg false [⟨none, .p 10 (.fa (.t 2) 0 1), []⟩, ⟨none, .p 11 (.ld (.t 10) 0 1 false), []⟩, ⟨none, .p 12 (.fa (.t 3) 0 1), []⟩, ⟨none, .p 13 (.ld (.t 12) 0 1 false), []⟩, ⟨none, .p 14 (.bin .neq (.t 11) (.t 13)), []⟩] [2, 3, 14, 10002, 10003]) (.cond (.t 14) (.seq (.reg false [⟨none, .tk 4 (.k (.b false)), []⟩] [4]) .ret) .skip)) (.seq (.seq (.reg false [⟨none, .p 15 (.fa (.t 2) 0 2), []⟩, ⟨none, .p 16 (.ld (.t 15) 0 1 false), []⟩, ⟨none, .p 17 (.fa (.t 3) 0 2), []⟩, ⟨none, .p 18 (.ld (.t 17) 0 1 false), []⟩, ⟨none, .p 19 (.bin .neq (.t 16) (.t 18)), []⟩] [2, 3, 19, 10002, 10003]) (.cond (.t 19) (.seq (.reg false [⟨none, .tk 4 (.k (.b false)), []⟩] [4]) .ret) .skip)) (.seq (.seq (.reg false [⟨none, .p 20 (.fa (.t 2) 0 3), []⟩, ⟨none, .p 21 (.ld (.t 20) 0 1 false), []⟩, ⟨none, .p 22 (.fa (.t 3) 0 3), []⟩, ⟨none, .p 23 (.ld (.t 22) 0 1 false), []⟩, ⟨none, .p 24 (.bin .neq (.t 21) (.t 23)), []⟩] [24]) (.cond (.t 24) (.seq (.reg false [⟨none, .tk 4 (.k (.b false)), []⟩] [4]) .ret) .skip)) (.seq (.reg false [⟨none, .tk 4 (.k (.b true)), []⟩] [4]) .ret))))))
theorem code_laws_eqItem : ∃ c, Tryd.f81.body = some c ∧ cfit PP 25 c c_laws_eqItem = true := by
  refine ⟨_, (rfl : Tryd.f81.body = some _), ?_⟩
  kernel_rfl
theorem t_eqItem {G : Glob} (a b : XItem) : FnD PP G 81 [.val true a.vw, .val true b.vw] [] []
    [.v false [.ow (.lit (.bool (decide (a = b))))]] [] [] := by
  obtain ⟨cc, hb, hcf⟩ := code_laws_eqItem
  refine fn_ok (fn := Tryd.f81) (specs := [.t 4]) (by kernel_rfl) hb (by show (25:Nat) ≤ 10000; omega) hcf (by kernel_rfl) (by show (2:Nat) ≤ 25; omega) (by simp) (by simp) rfl rfl (by simp) rfl ?_
  simp only [c_laws_eqItem]
  simp only [XItem.vw]
  push_cast
  refine cnd_dec (fun hne => ?_) (fun he0 => ?_)
  · push_cast
    have : a ≠ b := fun e => hne (by rw [e])
    simp [this]
  have he0 : a.Seq = b.Seq := Classical.not_not.1 he0
  push_cast
  refine cnd_dec (fun hne => ?_) (fun he1 => ?_)
  · push_cast
    have : a ≠ b := fun e => hne (by rw [e])
    simp [this]
  have he1 : a.From = b.From := Classical.not_not.1 he1
  push_cast
  refine cnd_dec (fun hne => ?_) (fun he2 => ?_)
  · push_cast
    have : a ≠ b := fun e => hne (by rw [e])
    simp [this]
  have he2 : a.Level = b.Level := Classical.not_not.1 he2
  push_cast
  refine cnd_dec (fun hne => ?_) (fun he3 => ?_)
  · push_cast
    have : a ≠ b := fun e => hne (by rw [e])
    simp [this]
  have he3 : a.Text = b.Text := Classical.not_not.1 he3
  push_cast
  have : a = b := by
    cases a; cases b
    simp only at he0 he1 he2 he3
    simp only [he0, he1, he2, he3]
  simp [this]

noncomputable def c_laws_eqItemS : ACode := (.seq (.reg false [⟨none, .tk 4 (.k (.b false)), []⟩] [0, 1]) (.seq (.seq (.reg false [⟨none, .p 6 (.mv (.t 0)), []⟩, ⟨none, .p 7 (.len false (.t 6)), []⟩, ⟨none, .p 8 (.mv (.t 1)), []⟩, ⟨none, .p 9 (.len false (.t 8)), []⟩, ⟨none, .p 10 (.bin .neq (.t 7) (.t 9)), []⟩] [0, 1, 10]) (.cond (.t 10) (.seq (.reg false [⟨none, .tk 4 (.k (.b false)), []⟩] [4]) .ret) .skip)) (.seq (.seq (.reg false [⟨none, .asg 5 (.k (.i .i64 0)), []⟩] [0, 1, 5]) (.block 0 (.loop [0, 1, 5] (.seq (.seq (.reg false [⟨none, .p 11 (.mv (.t 5)), []⟩, ⟨none, .p 12 (.mv (.t 0)), []⟩, ⟨none, .p 13 (.len false (.t 12)), []⟩, ⟨none, .p 14 (.bin .lss (.t 11) (.t 13)), []⟩] [0, 1, 5, 14]) (.cond (.t 14) .skip (.exit 0 []))) (.seq (.block 1 (.seq (.reg true [⟨none, .p 17 (.mv (.t 0)), []⟩, ⟨none, .p 18 (.mv (.t 5)), []⟩, ⟨none, .p 19 (.ia (.t 17) (.t 18) 4), [0, 1]⟩, ⟨none, .p 20 (.ld (.t 19) 0 4 true), [2]⟩, ⟨none, .p 21 (.mv (.t 1)), []⟩, ⟨none, .p 22 (.mv (.t 5)), []⟩, ⟨none, .p 23 (.ia (.t 21) (.t 22) 4), [4, 5]⟩, ⟨none, .p 24 (.ld (.t 23) 0 4 true), [6]⟩, ⟨none, .call (some 25) 81 [.rd (.t 20), .rd (.t 24)], [3, 7]⟩, ⟨none, .p 26 (.un .not (.t 25)), [8]⟩] [0, 1, 5, 26]) (.cond (.t 26) (.seq (.reg false [⟨none, .tk 4 (.k (.b false)), []⟩] [4]) .ret) .skip))) (.reg false [⟨none, .p 15 (.mv (.t 5)), []⟩, ⟨none, .p 16 (.bin .add (.t 15) (.k (.i .i64 1))), []⟩, ⟨none, .asg 5 (.t 16), []⟩] [0, 1, 5])))))) (.seq (.reg false [⟨none, .tk 4 (.k (.b true)), []⟩] [4]) .ret))))
theorem code_laws_eqItemS : ∃ c, Tryd.f90.body = some c ∧ cfit PP 27 c c_laws_eqItemS = true := by
  refine ⟨_, (rfl : Tryd.f90.body = some _), ?_⟩
  kernel_rfl
theorem t_eqItemS {G : Glob} (xs ys : List XItem) : FnD PP G 90 [.val false [.vw none [] (.sl .ow 4 (xs.map XItem.row))], .val false [.vw none [] (.sl .ow 4 (ys.map XItem.row))]] [] []
    [.v false [.ow (.lit (.bool (decide (xs = ys))))]] [] [] := by
  refine fn_bd fun hbd => ?_
  have hx : xs.length ≤ 281474976710656 := hbd _ (by simp [hdsA, lenT, Cl.tree])
  clear hbd
  obtain ⟨cc, hb, hcf⟩ := code_laws_eqItemS
  refine fn_ok (fn := Tryd.f90) (specs := [.t 4]) (by kernel_rfl) hb (by show (27:Nat) ≤ 10000; omega) hcf (by kernel_rfl) (by show (2:Nat) ≤ 27; omega) (by simp) (by simp) rfl rfl (by simp) rfl ?_
  simp only [c_laws_eqItemS]
  push_cast
  refine cnd_dec (fun hne => ?_) (fun heq => ?_)
  · push_cast
    have : xs ≠ ys := fun e => hne (by rw [e])
    simp [this]
  · have hl : xs.length = ys.length := by omega
    push_cast
    refine cwp_loop (fun i : Nat => ⟨[(0, .val false [.vw none [] (.sl .ow 4 (xs.map XItem.row))]), (1, .val false [.vw none [] (.sl .ow 4 (ys.map XItem.row))]), (5, .val false [.ow (.lit (.int .i64 i))])], []⟩)
      (fun i => i ≤ xs.length ∧ xs.take i = ys.take i) (fun i => xs.length - i) 0 rfl rfl ⟨by omega, by simp⟩ ?_
    rintro i ⟨h1, h2⟩
    push_cast
    refine cnd_dec (fun hlt => ?_) (fun hge => ?_)
    · have hi : i < xs.length := by simpa using hlt
      have hi' : i < ys.length := by omega
      push_cast
      refine draw_any ?_
      push_cast [getD_map hi, getD_map hi', XItem.row]
      refine ⟨⟨by omega, by omega⟩, ⟨by omega, by omega⟩, ?_⟩
      have hc := t_eqItem (G := G) xs[i] ys[i]
      simp only [XItem.vw] at hc
      refine call_ok hc ?_
      push_cast
      refine ⟨by kernel_rfl, cnd_dec (fun he => ?_) (fun hne => ?_)⟩
      · push_cast
        have : xs ≠ ys := fun e => he (by subst e; rfl)
        simp [this]
      · push_cast
        refine ⟨i + 1, ?_, ⟨by omega, ?_⟩, by omega⟩
        · rw [wrap64 (by omega) (by omega)]; rfl
        · have he : xs[i] = ys[i] := Classical.not_not.1 hne
          rw [List.take_succ_eq_append_getElem hi, List.take_succ_eq_append_getElem hi', h2, he]
    · have hi : i = xs.length := by simp at hge; omega
      subst hi
      push_cast
      have : xs = ys := by rw [List.take_length, hl, List.take_length] at h2; exact h2
      simp [this]

noncomputable def c_laws_eqToken : ACode := (.seq (.reg false [⟨none, .box 2 (.t 0), []⟩, ⟨none, .box 3 (.t 1), []⟩, ⟨none, .tk 4 (.k (.b false)), []⟩] [2, 3, 10002, 10003]) (.seq (.seq (.reg false [⟨none, .p 5 (.fa (.t 2) 0 0), []⟩, ⟨none, .p 6 (.ld (.t 5) 0 1 false), []⟩, ⟨none, .p 7 (.fa (.t 3) 0 0), []⟩, ⟨none, .p 8 (.ld (.t 7) 0 1 false), []⟩, ⟨none, .p 9 (.bin .neq (.t 6) (.t 8)), []⟩] [2, 3, 9, 10002, 10003]) (.cond (.t 9) (.seq (.reg false [⟨none, .tk 4 (.k (.b false)), []⟩] [4]) .ret) .skip)) (.seq (.seq (.reg false [⟨none, .p 10 (.fa (.t 2) 0 1), []⟩, ⟨none, .p 11 (.ld (.t 10) 0 1 false), []⟩, ⟨none, .p 12 (.fa (.t 3) 0 1), []⟩, ⟨none, .p 13 (.ld (.t 12) 0 1 false), []⟩, ⟨none, .p 14 (.bin .neq (.t 11) (.t 13)), []⟩] [2, 3, 14, 10002, 10003]) (.cond (.t 14) (.seq (.reg false [⟨none, .tk 4 (.k (.b false)), []⟩] [4]) .ret) .skip)) (.seq (.seq (.reg false [⟨none, .p 15 (.fa (.t 2) 0 2), []⟩, ⟨none, .p 16 (.ld (.t 15) 0 1 false), []⟩, ⟨none, .p 17 (.fa (.t 3) 0 2), []⟩, ⟨none, .p 18 (.ld (.t 17) 0 1 false), []⟩, ⟨none, .p 19 (.bin .neq (.t 16) (.t 18)), []⟩] [2, 3, 19, 10002, 10003]) (.cond (.t 19) (.seq (.reg false [⟨none, .tk 4 (.k (.b false)), []⟩] [4]) .ret) .skip)) (.seq (.seq (.reg false [⟨none, .p 20 (.fa (.t 2) 0 3), []⟩, ⟨none, .p 21 (.ld (.t 20) 0 1 false), []⟩, ⟨none, .p 22 (.fa (.t 3) 0 3), []⟩, ⟨none, .p 23 (.ld (.t 22) 0 1 false), []⟩, ⟨none, .p 24 (.bin .neq (.t 21) (.t 23)), []⟩] [2, 3, 24, 10002, 10003]) (.cond (.t 24) (.seq (.reg false [⟨none, .tk 4 (.k (.b false)), []⟩] [4]) .ret) .skip)) (.seq (.seq (.reg false [⟨none, .p 25 (.fa (.t 2) 0 4), []⟩, ⟨none, .p 26 (.ld (.t 25) 0 1 false), []⟩, ⟨none, .p 27 (.fa (.t 3) 0 4), []⟩, ⟨none, .p 28 (.ld (.t 27) 0 1 false), []⟩, ⟨none, .p 29 (.bin .neq (.t 26) (.t 28)), []⟩] [2, 3, 29, 10002, 10003]) (.cond (.t 29) (.seq (.reg false [⟨none, .tk 4 (.k (.b false)), []⟩] [4]) .ret) .skip)) (.seq (.seq (.reg false [⟨none, .p 30 (.fa (.t 2) 0 5), []⟩, ⟨none, .p 31 (.ld (.t 30) 0 1 false), []⟩, ⟨none, .p 32 (.fa (.t 3) 0 5), []⟩, ⟨none, .p 33 (.ld (.t 32) 0 1 false), []⟩, ⟨none, .call (some 34) 22 [.rd (.t 31), .rd (.t 33)], []⟩, ⟨none, .p 35 (.un .not (.t 34)), []⟩] [35]) (.cond (.t 35) (.seq (.reg false [⟨none, .tk 4 (.k (.b false)), []⟩] [4]) .ret) .skip)) (.seq (.reg false [⟨none, .tk 4 (.k (.b true)), []⟩] [4]) .ret))))))))
theorem code_laws_eqToken : ∃ c, Tryd.f82.body = some c ∧ cfit PP 36 c c_laws_eqToken = true := by
  refine ⟨_, (rfl : Tryd.f82.body = some _), ?_⟩
  kernel_rfl
theorem t_eqToken {G : Glob} (a b : XToken) : FnD PP G 82 [.val true a.vw, .val true b.vw] [] []
    [.v false [.ow (.lit (.bool (decide (a = b))))]] [] [] := by
  obtain ⟨cc, hb, hcf⟩ := code_laws_eqToken
  refine fn_ok (fn := Tryd.f82) (specs := [.t 4]) (by kernel_rfl) hb (by show (36:Nat) ≤ 10000; omega) hcf (by kernel_rfl) (by show (2:Nat) ≤ 36; omega) (by simp) (by simp) rfl rfl (by simp) rfl ?_
  simp only [c_laws_eqToken]
  simp only [XToken.vw]
  push_cast
  refine cnd_dec (fun hne => ?_) (fun he0 => ?_)
  · push_cast
    have : a ≠ b := fun e => hne (by rw [e])
    simp [this]
  have he0 : a.Conf = b.Conf := Classical.not_not.1 he0
  push_cast
  refine cnd_dec (fun hne => ?_) (fun he1 => ?_)
  · push_cast
    have : a ≠ b := fun e => hne (by rw [e])
    simp [this]
  have he1 : a.Round = b.Round := Classical.not_not.1 he1
  push_cast
  refine cnd_dec (fun hne => ?_) (fun he2 => ?_)
  · push_cast
    have : a ≠ b := fun e => hne (by rw [e])
    simp [this]
  have he2 : a.Seq = b.Seq := Classical.not_not.1 he2
  push_cast
  refine cnd_dec (fun hne => ?_) (fun he3 => ?_)
  · push_cast
    have : a ≠ b := fun e => hne (by rw [e])
    simp [this]
  have he3 : a.Aru = b.Aru := Classical.not_not.1 he3
  push_cast
  refine cnd_dec (fun hne => ?_) (fun he4 => ?_)
  · push_cast
    have : a ≠ b := fun e => hne (by rw [e])
    simp [this]
  have he4 : a.By = b.By := Classical.not_not.1 he4
  push_cast
  have hc := t_eqIntS (G := G) a.Wants b.Wants
  refine call_ok hc ?_
  clear hc
  push_cast
  refine cnd_dec (fun hne => ?_) (fun he5 => ?_)
  · push_cast
    have : a ≠ b := fun e => hne (by rw [e])
    simp [this]
  have he5 : a.Wants = b.Wants := Classical.not_not.1 he5
  push_cast
  have : a = b := by
    cases a; cases b
    simp only at he0 he1 he2 he3 he4 he5
    simp only [he0, he1, he2, he3, he4, he5]
  simp [this]

noncomputable def c_laws_eqMate : ACode := (.seq (.reg false [⟨none, .box 2 (.t 0), []⟩, ⟨none, .box 3 (.t 1), []⟩, ⟨none, .tk 4 (.k (.b false)), []⟩] [2, 3, 10002, 10003]) (.seq (.seq (.reg false [⟨none, .p 5 (.fa (.t 2) 0 0), []⟩, ⟨none, .p 6 (.ld (.t 5) 0 1 false), []⟩, ⟨none, .p 7 (.fa (.t 3) 0 0), []⟩, ⟨none, .p 8 (.ld (.t 7) 0 1 false), []⟩, ⟨none, .p 9 (.bin .neq (.t 6) (.t 8)), []⟩] [2, 3, 9, 10002, 10003]) (.cond (.t 9) (.seq (.reg false [⟨none, .tk 4 (.k (.b false)), []⟩] [4]) .ret) .skip)) (.seq (.seq (.reg false [⟨none, .p 10 (.fa (.t 2) 0 1), []⟩, ⟨none, .p 11 (.ld (.t 10) 0 2 true), []⟩, ⟨none, .p 12 (.fa (.t 3) 0 1), []⟩, ⟨none, .p 13 (.ld (.t 12) 0 2 true), []⟩, ⟨none, .call (some 14) 23 [.rd (.t 11), .rd (.t 13)], []⟩, ⟨none, .p 15 (.un .not (.t 14)), []⟩] [2, 3, 15, 10002, 10003]) (.cond (.t 15) (.seq (.reg false [⟨none, .tk 4 (.k (.b false)), []⟩] [4]) .ret) .skip)) (.seq (.seq (.reg false [⟨none, .p 16 (.fa (.t 2) 0 3), []⟩, ⟨none, .p 17 (.ld (.t 16) 0 1 false), []⟩, ⟨none, .p 18 (.fa (.t 3) 0 3), []⟩, ⟨none, .p 19 (.ld (.t 18) 0 1 false), []⟩, ⟨none, .call (some 20) 90 [.rd (.t 17), .rd (.t 19)], []⟩, ⟨none, .p 21 (.un .not (.t 20)), []⟩] [2, 3, 21, 10002, 10003]) (.cond (.t 21) (.seq (.reg false [⟨none, .tk 4 (.k (.b false)), []⟩] [4]) .ret) .skip)) (.seq (.seq (.reg false [⟨none, .p 22 (.fa (.t 2) 0 4), []⟩, ⟨none, .p 23 (.ld (.t 22) 0 1 false), []⟩, ⟨none, .p 24 (.fa (.t 3) 0 4), []⟩, ⟨none, .p 25 (.ld (.t 24) 0 1 false), []⟩, ⟨none, .call (some 26) 22 [.rd (.t 23), .rd (.t 25)], []⟩, ⟨none, .p 27 (.un .not (.t 26)), []⟩] [2, 3, 27, 10002, 10003]) (.cond (.t 27) (.seq (.reg false [⟨none, .tk 4 (.k (.b false)), []⟩] [4]) .ret) .skip)) (.seq (.seq (.reg false [⟨none, .p 28 (.fa (.t 2) 0 5), []⟩, ⟨none, .p 29 (.ld (.t 28) 0 1 false), []⟩, ⟨none, .p 30 (.fa (.t 3) 0 5), []⟩, ⟨none, .p 31 (.ld (.t 30) 0 1 false), []⟩, ⟨none, .call (some 32) 72 [.rd (.t 29), .rd (.t 31)], []⟩, ⟨none, .p 33 (.un .not (.t 32)), []⟩] [2, 3, 33, 10002, 10003]) (.cond (.t 33) (.seq (.reg false [⟨none, .tk 4 (.k (.b false)), []⟩] [4]) .ret) .skip)) (.seq (.seq (.reg false [⟨none, .p 34 (.fa (.t 2) 0 6), []⟩, ⟨none, .p 35 (.ld (.t 34) 0 1 false), []⟩, ⟨none, .p 36 (.fa (.t 3) 0 6), []⟩, ⟨none, .p 37 (.ld (.t 36) 0 1 false), []⟩, ⟨none, .p 38 (.bin .neq (.t 35) (.t 37)), []⟩] [2, 3, 38, 10002, 10003]) (.cond (.t 38) (.seq (.reg false [⟨none, .tk 4 (.k (.b false)), []⟩] [4]) .ret) .skip)) (.seq (.seq (.reg false [⟨none, .p 39 (.fa (.t 2) 0 7), []⟩, ⟨none, .p 40 (.ld (.t 39) 0 1 false), []⟩, ⟨none, .p 41 (.fa (.t 3) 0 7), []⟩, ⟨none, .p 42 (.ld (.t 41) 0 1 false), []⟩, ⟨none, .p 43 (.bin .neq (.t 40) (.t 42)), []⟩] [2, 3, 43, 10002, 10003]) (.cond (.t 43) (.seq (.reg false [⟨none, .tk 4 (.k (.b false)), []⟩] [4]) .ret) .skip)) (.seq (.seq (.reg false [⟨none, .p 44 (.fa (.t 2) 0 8), []⟩, ⟨none, .p 45 (.ld (.t 44) 0 1 false), []⟩, ⟨none, .p 46 (.fa (.t 3) 0 8), []⟩, ⟨none, .p 47 (.ld (.t 46) 0 1 false), []⟩, ⟨none, .p 48 (.bin .neq (.t 45) (.t 47)), []⟩] [2, 3, 48, 10002, 10003]) (.cond (.t 48) (.seq (.reg false [⟨none, .tk 4 (.k (.b false)), []⟩] [4]) .ret) .skip)) (.seq (.seq (.reg false [⟨none, .p 49 (.fa (.t 2) 0 9), []⟩, ⟨none, .p 50 (.ld (.t 49) 0 1 false), []⟩, ⟨none, .p 51 (.fa (.t 3) 0 9), []⟩, ⟨none, .p 52 (.ld (.t 51) 0 1 false), []⟩, ⟨none, .p 53 (.bin .neq (.t 50) (.t 52)), []⟩] [2, 3, 53, 10002, 10003]) (.cond (.t 53) (.seq (.reg false [⟨none, .tk 4 (.k (.b false)), []⟩] [4]) .ret) .skip)) (.seq (.seq (.reg false [⟨none, .p 54 (.fa (.t 2) 0 10), []⟩, ⟨none, .p 55 (.ld (.t 54) 0 6 true), []⟩, ⟨none, .p 56 (.fa (.t 3) 0 10), []⟩, ⟨none, .p 57 (.ld (.t 56) 0 6 true), []⟩, ⟨none, .call (some 58) 82 [.rd (.t 55), .rd (.t 57)], []⟩, ⟨none, .p 59 (.un .not (.t 58)), []⟩] [59]) (.cond (.t 59) (.seq (.reg false [⟨none, .tk 4 (.k (.b false)), []⟩] [4]) .ret) .skip)) (.seq (.reg false [⟨none, .tk 4 (.k (.b true)), []⟩] [4]) .ret))))))))))))
theorem code_laws_eqMate : ∃ c, Tryd.f79.body = some c ∧ cfit PP 60 c c_laws_eqMate = true := by
  refine ⟨_, (rfl : Tryd.f79.body = some _), ?_⟩
  kernel_rfl
theorem t_eqMate {G : Glob} (a b : XMate) : FnD PP G 79 [.val true a.vw, .val true b.vw] [] []
    [.v false [.ow (.lit (.bool (decide (a = b))))]] [] [] := by
  obtain ⟨cc, hb, hcf⟩ := code_laws_eqMate
  refine fn_ok (fn := Tryd.f79) (specs := [.t 4]) (by kernel_rfl) hb (by show (60:Nat) ≤ 10000; omega) hcf (by kernel_rfl) (by show (2:Nat) ≤ 60; omega) (by simp) (by simp) rfl rfl (by simp) rfl ?_
  simp only [c_laws_eqMate]
  simp only [XMate.vw]
  push_cast
  refine cnd_dec (fun hne => ?_) (fun he0 => ?_)
  · push_cast
    have : a ≠ b := fun e => hne (by rw [e])
    simp [this]
  have he0 : a.Id = b.Id := Classical.not_not.1 he0
  push_cast
  have hc := t_eqRing (G := G) a.Ring b.Ring
  simp only [XRing.vw] at hc
  refine call_ok hc ?_
  clear hc
  push_cast
  refine cnd_dec (fun hne => ?_) (fun he1 => ?_)
  · push_cast
    have : a ≠ b := fun e => hne (by rw [e])
    simp [this]
  have he1 : a.Ring = b.Ring := Classical.not_not.1 he1
  push_cast
  have hc := t_eqItemS (G := G) a.Items b.Items
  refine call_ok hc ?_
  clear hc
  push_cast
  refine cnd_dec (fun hne => ?_) (fun he2 => ?_)
  · push_cast
    have : a ≠ b := fun e => hne (by rw [e])
    simp [this]
  have he2 : a.Items = b.Items := Classical.not_not.1 he2
  push_cast
  have hc := t_eqIntS (G := G) a.Level b.Level
  refine call_ok hc ?_
  clear hc
  push_cast
  refine cnd_dec (fun hne => ?_) (fun he3 => ?_)
  · push_cast
    have : a ≠ b := fun e => hne (by rw [e])
    simp [this]
  have he3 : a.Level = b.Level := Classical.not_not.1 he3
  push_cast
  have hc := t_eqStringS (G := G) a.Texts b.Texts
  refine call_ok hc ?_
  clear hc
  push_cast
  refine cnd_dec (fun hne => ?_) (fun he4 => ?_)
  · push_cast
    have : a ≠ b := fun e => hne (by rw [e])
    simp [this]
  have he4 : a.Texts = b.Texts := Classical.not_not.1 he4
  push_cast
  refine cnd_dec (fun hne => ?_) (fun he5 => ?_)
  · push_cast
    have : a ≠ b := fun e => hne (by rw [e])
    simp [this]
  have he5 : a.Round = b.Round := Classical.not_not.1 he5
  push_cast
  refine cnd_dec (fun hne => ?_) (fun he6 => ?_)
  · push_cast
    have : a ≠ b := fun e => hne (by rw [e])
    simp [this]
  have he6 : a.Seen = b.Seen := Classical.not_not.1 he6
  push_cast
  refine cnd_dec (fun hne => ?_) (fun he7 => ?_)
  · push_cast
    have : a ≠ b := fun e => hne (by rw [e])
    simp [this]
  have he7 : a.Line = b.Line := Classical.not_not.1 he7
  push_cast
  refine cnd_dec (fun hne => ?_) (fun he8 => ?_)
  · push_cast
    have : a ≠ b := fun e => hne (by rw [e])
    simp [this]
  have he8 : a.Heard = b.Heard := Classical.not_not.1 he8
  push_cast
  have hc := t_eqToken (G := G) a.Last b.Last
  simp only [XToken.vw] at hc
  refine call_ok hc ?_
  clear hc
  push_cast
  refine cnd_dec (fun hne => ?_) (fun he9 => ?_)
  · push_cast
    have : a ≠ b := fun e => hne (by rw [e])
    simp [this]
  have he9 : a.Last = b.Last := Classical.not_not.1 he9
  push_cast
  have : a = b := by
    cases a; cases b
    simp only at he0 he1 he2 he3 he4 he5 he6 he7 he8 he9
    simp only [he0, he1, he2, he3, he4, he5, he6, he7, he8, he9]
  simp [this]

noncomputable def c_laws_eqBundle : ACode := (.seq (.reg false [⟨none, .box 2 (.t 0), []⟩, ⟨none, .box 3 (.t 1), []⟩, ⟨none, .tk 4 (.k (.b false)), []⟩] [2, 3, 10002, 10003]) (.seq (.seq (.reg false [⟨none, .p 5 (.fa (.t 2) 0 0), []⟩, ⟨none, .p 6 (.ld (.t 5) 0 1 false), []⟩, ⟨none, .p 7 (.fa (.t 3) 0 0), []⟩, ⟨none, .p 8 (.ld (.t 7) 0 1 false), []⟩, ⟨none, .p 9 (.bin .neq (.t 6) (.t 8)), []⟩] [2, 3, 9, 10002, 10003]) (.cond (.t 9) (.seq (.reg false [⟨none, .tk 4 (.k (.b false)), []⟩] [4]) .ret) .skip)) (.seq (.seq (.reg false [⟨none, .p 10 (.fa (.t 2) 0 1), []⟩, ⟨none, .p 11 (.ld (.t 10) 0 1 false), []⟩, ⟨none, .p 12 (.fa (.t 3) 0 1), []⟩, ⟨none, .p 13 (.ld (.t 12) 0 1 false), []⟩, ⟨none, .p 14 (.bin .neq (.t 11) (.t 13)), []⟩] [2, 3, 14, 10002, 10003]) (.cond (.t 14) (.seq (.reg false [⟨none, .tk 4 (.k (.b false)), []⟩] [4]) .ret) .skip)) (.seq (.seq (.reg false [⟨none, .p 15 (.fa (.t 2) 0 2), []⟩, ⟨none, .p 16 (.ld (.t 15) 0 1 false), []⟩, ⟨none, .p 17 (.fa (.t 3) 0 2), []⟩, ⟨none, .p 18 (.ld (.t 17) 0 1 false), []⟩, ⟨none, .p 19 (.bin .neq (.t 16) (.t 18)), []⟩] [2, 3, 19, 10002, 10003]) (.cond (.t 19) (.seq (.reg false [⟨none, .tk 4 (.k (.b false)), []⟩] [4]) .ret) .skip)) (.seq (.seq (.reg false [⟨none, .p 20 (.fa (.t 2) 0 3), []⟩, ⟨none, .p 21 (.ld (.t 20) 0 1 false), []⟩, ⟨none, .p 22 (.fa (.t 3) 0 3), []⟩, ⟨none, .p 23 (.ld (.t 22) 0 1 false), []⟩, ⟨none, .call (some 24) 90 [.rd (.t 21), .rd (.t 23)], []⟩, ⟨none, .p 25 (.un .not (.t 24)), []⟩] [25]) (.cond (.t 25) (.seq (.reg false [⟨none, .tk 4 (.k (.b false)), []⟩] [4]) .ret) .skip)) (.seq (.reg false [⟨none, .tk 4 (.k (.b true)), []⟩] [4]) .ret))))))
theorem code_laws_eqBundle : ∃ c, Tryd.f83.body = some c ∧ cfit PP 26 c c_laws_eqBundle = true := by
  refine ⟨_, (rfl : Tryd.f83.body = some _), ?_⟩
  kernel_rfl
theorem t_eqBundle {G : Glob} (a b : XBundle) : FnD PP G 83 [.val true a.vw, .val true b.vw] [] []
    [.v false [.ow (.lit (.bool (decide (a = b))))]] [] [] := by
  obtain ⟨cc, hb, hcf⟩ := code_laws_eqBundle
  refine fn_ok (fn := Tryd.f83) (specs := [.t 4]) (by kernel_rfl) hb (by show (26:Nat) ≤ 10000; omega) hcf (by kernel_rfl) (by show (2:Nat) ≤ 26; omega) (by simp) (by simp) rfl rfl (by simp) rfl ?_
  simp only [c_laws_eqBundle]
  simp only [XBundle.vw]
  push_cast
  refine cnd_dec (fun hne => ?_) (fun he0 => ?_)
  · push_cast
    have : a ≠ b := fun e => hne (by rw [e])
    simp [this]
  have he0 : a.From = b.From := Classical.not_not.1 he0
  push_cast
  refine cnd_dec (fun hne => ?_) (fun he1 => ?_)
  · push_cast
    have : a ≠ b := fun e => hne (by rw [e])
    simp [this]
  have he1 : a.New = b.New := Classical.not_not.1 he1
  push_cast
  refine cnd_dec (fun hne => ?_) (fun he2 => ?_)
  · push_cast
    have : a ≠ b := fun e => hne (by rw [e])
    simp [this]
  have he2 : a.Old = b.Old := Classical.not_not.1 he2
  push_cast
  have hc := t_eqItemS (G := G) a.Items b.Items
  refine call_ok hc ?_
  clear hc
  push_cast
  refine cnd_dec (fun hne => ?_) (fun he3 => ?_)
  · push_cast
    have : a ≠ b := fun e => hne (by rw [e])
    simp [this]
  have he3 : a.Items = b.Items := Classical.not_not.1 he3
  push_cast
  have : a = b := by
    cases a; cases b
    simp only at he0 he1 he2 he3
    simp only [he0, he1, he2, he3]
  simp [this]

noncomputable def c_laws_eqBundleS : ACode := (.seq (.reg false [⟨none, .tk 4 (.k (.b false)), []⟩] [0, 1]) (.seq (.seq (.reg false [⟨none, .p 6 (.mv (.t 0)), []⟩, ⟨none, .p 7 (.len false (.t 6)), []⟩, ⟨none, .p 8 (.mv (.t 1)), []⟩, ⟨none, .p 9 (.len false (.t 8)), []⟩, ⟨none, .p 10 (.bin .neq (.t 7) (.t 9)), []⟩] [0, 1, 10]) (.cond (.t 10) (.seq (.reg false [⟨none, .tk 4 (.k (.b false)), []⟩] [4]) .ret) .skip)) (.seq (.seq (.reg false [⟨none, .asg 5 (.k (.i .i64 0)), []⟩] [0, 1, 5]) (.block 0 (.loop [0, 1, 5] (.seq (.seq (.reg false [⟨none, .p 11 (.mv (.t 5)), []⟩, ⟨none, .p 12 (.mv (.t 0)), []⟩, ⟨none, .p 13 (.len false (.t 12)), []⟩, ⟨none, .p 14 (.bin .lss (.t 11) (.t 13)), []⟩] [0, 1, 5, 14]) (.cond (.t 14) .skip (.exit 0 []))) (.seq (.block 1 (.seq (.reg true [⟨none, .p 17 (.mv (.t 0)), []⟩, ⟨none, .p 18 (.mv (.t 5)), []⟩, ⟨none, .p 19 (.ia (.t 17) (.t 18) 4), [0, 1]⟩, ⟨none, .p 20 (.ld (.t 19) 0 4 true), [2]⟩, ⟨none, .p 21 (.mv (.t 1)), []⟩, ⟨none, .p 22 (.mv (.t 5)), []⟩, ⟨none, .p 23 (.ia (.t 21) (.t 22) 4), [4, 5]⟩, ⟨none, .p 24 (.ld (.t 23) 0 4 true), [6]⟩, ⟨none, .call (some 25) 83 [.rd (.t 20), .rd (.t 24)], [3, 7]⟩, ⟨none, .p 26 (.un .not (.t 25)), [8]⟩] [0, 1, 5, 26]) (.cond (.t 26) (.seq (.reg false [⟨none, .tk 4 (.k (.b false)), []⟩] [4]) .ret) .skip))) (.reg false [⟨none, .p 15 (.mv (.t 5)), []⟩, ⟨none, .p 16 (.bin .add (.t 15) (.k (.i .i64 1))), []⟩, ⟨none, .asg 5 (.t 16), []⟩] [0, 1, 5])))))) (.seq (.reg false [⟨none, .tk 4 (.k (.b true)), []⟩] [4]) .ret))))
theorem code_laws_eqBundleS : ∃ c, Tryd.f80.body = some c ∧ cfit PP 27 c c_laws_eqBundleS = true := by
  refine ⟨_, (rfl : Tryd.f80.body = some _), ?_⟩
  kernel_rfl
theorem t_eqBundleS {G : Glob} (xs ys : List XBundle) : FnD PP G 80 [.val false [.vw none [] (.sl .ow 4 (xs.map XBundle.row))], .val false [.vw none [] (.sl .ow 4 (ys.map XBundle.row))]] [] []
    [.v false [.ow (.lit (.bool (decide (xs = ys))))]] [] [] := by
  refine fn_bd fun hbd => ?_
  have hx : xs.length ≤ 281474976710656 := hbd _ (by simp [hdsA, lenT, Cl.tree])
  clear hbd
  obtain ⟨cc, hb, hcf⟩ := code_laws_eqBundleS
  refine fn_ok (fn := Tryd.f80) (specs := [.t 4]) (by kernel_rfl) hb (by show (27:Nat) ≤ 10000; omega) hcf (by kernel_rfl) (by show (2:Nat) ≤ 27; omega) (by simp) (by simp) rfl rfl (by simp) rfl ?_
  simp only [c_laws_eqBundleS]
  push_cast
  refine cnd_dec (fun hne => ?_) (fun heq => ?_)
  · push_cast
    have : xs ≠ ys := fun e => hne (by rw [e])
    simp [this]
  · have hl : xs.length = ys.length := by omega
    push_cast
    refine cwp_loop (fun i : Nat => ⟨[(0, .val false [.vw none [] (.sl .ow 4 (xs.map XBundle.row))]), (1, .val false [.vw none [] (.sl .ow 4 (ys.map XBundle.row))]), (5, .val false [.ow (.lit (.int .i64 i))])], []⟩)
      (fun i => i ≤ xs.length ∧ xs.take i = ys.take i) (fun i => xs.length - i) 0 rfl rfl ⟨by omega, by simp⟩ ?_
    rintro i ⟨h1, h2⟩
    push_cast
    refine cnd_dec (fun hlt => ?_) (fun hge => ?_)
    · have hi : i < xs.length := by simpa using hlt
      have hi' : i < ys.length := by omega
      push_cast
      refine draw_any ?_
      push_cast [getD_map hi, getD_map hi', XBundle.row]
      refine ⟨⟨by omega, by omega⟩, ⟨by omega, by omega⟩, ?_⟩
      have hc := t_eqBundle (G := G) xs[i] ys[i]
      simp only [XBundle.vw] at hc
      refine call_ok hc ?_
      push_cast
      refine ⟨by kernel_rfl, cnd_dec (fun he => ?_) (fun hne => ?_)⟩
      · push_cast
        have : xs ≠ ys := fun e => he (by subst e; rfl)
        simp [this]
      · push_cast
        refine ⟨i + 1, ?_, ⟨by omega, ?_⟩, by omega⟩
        · rw [wrap64 (by omega) (by omega)]; rfl
        · have he : xs[i] = ys[i] := Classical.not_not.1 hne
          rw [List.take_succ_eq_append_getElem hi, List.take_succ_eq_append_getElem hi', h2, he]
    · have hi : i = xs.length := by simp at hge; omega
      subst hi
      push_cast
      have : xs = ys := by rw [List.take_length, hl, List.take_length] at h2; exact h2
      simp [this]

noncomputable def c_laws_eqEvent : ACode := (.seq (.reg false [⟨none, .box 2 (.t 0), []⟩, ⟨none, .box 3 (.t 1), []⟩, ⟨none, .tk 4 (.k (.b false)), []⟩] [2, 3, 10002, 10003]) (.seq (.seq (.reg false [⟨none, .p 5 (.fa (.t 2) 0 0), []⟩, ⟨none, .p 6 (.ld (.t 5) 0 1 false), []⟩, ⟨none, .p 7 (.fa (.t 3) 0 0), []⟩, ⟨none, .p 8 (.ld (.t 7) 0 1 false), []⟩, ⟨none, .p 9 (.bin .neq (.t 6) (.t 8)), []⟩] [2, 3, 9, 10002, 10003]) (.cond (.t 9) (.seq (.reg false [⟨none, .tk 4 (.k (.b false)), []⟩] [4]) .ret) .skip)) (.seq (.seq (.reg false [⟨none, .p 10 (.fa (.t 2) 0 1), []⟩, ⟨none, .p 11 (.ld (.t 10) 0 2 true), []⟩, ⟨none, .p 12 (.fa (.t 3) 0 1), []⟩, ⟨none, .p 13 (.ld (.t 12) 0 2 true), []⟩, ⟨none, .call (some 14) 23 [.rd (.t 11), .rd (.t 13)], []⟩, ⟨none, .p 15 (.un .not (.t 14)), []⟩] [2, 3, 15, 10002, 10003]) (.cond (.t 15) (.seq (.reg false [⟨none, .tk 4 (.k (.b false)), []⟩] [4]) .ret) .skip)) (.seq (.seq (.reg false [⟨none, .p 16 (.fa (.t 2) 0 3), []⟩, ⟨none, .p 17 (.ld (.t 16) 0 4 true), []⟩, ⟨none, .p 18 (.fa (.t 3) 0 3), []⟩, ⟨none, .p 19 (.ld (.t 18) 0 4 true), []⟩, ⟨none, .call (some 20) 81 [.rd (.t 17), .rd (.t 19)], []⟩, ⟨none, .p 21 (.un .not (.t 20)), []⟩] [2, 3, 21, 10002, 10003]) (.cond (.t 21) (.seq (.reg false [⟨none, .tk 4 (.k (.b false)), []⟩] [4]) .ret) .skip)) (.seq (.seq (.reg false [⟨none, .p 22 (.fa (.t 2) 0 7), []⟩, ⟨none, .p 23 (.ld (.t 22) 0 1 false), []⟩, ⟨none, .p 24 (.fa (.t 3) 0 7), []⟩, ⟨none, .p 25 (.ld (.t 24) 0 1 false), []⟩, ⟨none, .call (some 26) 22 [.rd (.t 23), .rd (.t 25)], []⟩, ⟨none, .p 27 (.un .not (.t 26)), []⟩] [27]) (.cond (.t 27) (.seq (.reg false [⟨none, .tk 4 (.k (.b false)), []⟩] [4]) .ret) .skip)) (.seq (.reg false [⟨none, .tk 4 (.k (.b true)), []⟩] [4]) .ret))))))
theorem code_laws_eqEvent : ∃ c, Tryd.f69.body = some c ∧ cfit PP 28 c c_laws_eqEvent = true := by
  refine ⟨_, (rfl : Tryd.f69.body = some _), ?_⟩
  kernel_rfl
theorem t_eqEvent {G : Glob} (a b : XEvent) : FnD PP G 69 [.val true a.vw, .val true b.vw] [] []
    [.v false [.ow (.lit (.bool (decide (a = b))))]] [] [] := by
  obtain ⟨cc, hb, hcf⟩ := code_laws_eqEvent
  refine fn_ok (fn := Tryd.f69) (specs := [.t 4]) (by kernel_rfl) hb (by show (28:Nat) ≤ 10000; omega) hcf (by kernel_rfl) (by show (2:Nat) ≤ 28; omega) (by simp) (by simp) rfl rfl (by simp) rfl ?_
  simp only [c_laws_eqEvent]
  simp only [XEvent.vw]
  push_cast
  refine cnd_dec (fun hne => ?_) (fun he0 => ?_)
  · push_cast
    have : a ≠ b := fun e => hne (by rw [e])
    simp [this]
  have he0 : a.Kind = b.Kind := Classical.not_not.1 he0
  push_cast
  have hc := t_eqRing (G := G) a.Ring b.Ring
  simp only [XRing.vw] at hc
  refine call_ok hc ?_
  clear hc
  push_cast
  refine cnd_dec (fun hne => ?_) (fun he1 => ?_)
  · push_cast
    have : a ≠ b := fun e => hne (by rw [e])
    simp [this]
  have he1 : a.Ring = b.Ring := Classical.not_not.1 he1
  push_cast
  have hc := t_eqItem (G := G) a.Item b.Item
  simp only [XItem.vw] at hc
  refine call_ok hc ?_
  clear hc
  push_cast
  refine cnd_dec (fun hne => ?_) (fun he2 => ?_)
  · push_cast
    have : a ≠ b := fun e => hne (by rw [e])
    simp [this]
  have he2 : a.Item = b.Item := Classical.not_not.1 he2
  push_cast
  have hc := t_eqIntS (G := G) a.With b.With
  refine call_ok hc ?_
  clear hc
  push_cast
  refine cnd_dec (fun hne => ?_) (fun he3 => ?_)
  · push_cast
    have : a ≠ b := fun e => hne (by rw [e])
    simp [this]
  have he3 : a.With = b.With := Classical.not_not.1 he3
  push_cast
  have : a = b := by
    cases a; cases b
    simp only at he0 he1 he2 he3
    simp only [he0, he1, he2, he3]
  simp [this]

noncomputable def c_laws_eqEventS : ACode := (.seq (.reg false [⟨none, .tk 4 (.k (.b false)), []⟩] [0, 1]) (.seq (.seq (.reg false [⟨none, .p 6 (.mv (.t 0)), []⟩, ⟨none, .p 7 (.len false (.t 6)), []⟩, ⟨none, .p 8 (.mv (.t 1)), []⟩, ⟨none, .p 9 (.len false (.t 8)), []⟩, ⟨none, .p 10 (.bin .neq (.t 7) (.t 9)), []⟩] [0, 1, 10]) (.cond (.t 10) (.seq (.reg false [⟨none, .tk 4 (.k (.b false)), []⟩] [4]) .ret) .skip)) (.seq (.seq (.reg false [⟨none, .asg 5 (.k (.i .i64 0)), []⟩] [0, 1, 5]) (.block 0 (.loop [0, 1, 5] (.seq (.seq (.reg false [⟨none, .p 11 (.mv (.t 5)), []⟩, ⟨none, .p 12 (.mv (.t 0)), []⟩, ⟨none, .p 13 (.len false (.t 12)), []⟩, ⟨none, .p 14 (.bin .lss (.t 11) (.t 13)), []⟩] [0, 1, 5, 14]) (.cond (.t 14) .skip (.exit 0 []))) (.seq (.block 1 (.seq (.reg true [⟨none, .p 17 (.mv (.t 0)), []⟩, ⟨none, .p 18 (.mv (.t 5)), []⟩, ⟨none, .p 19 (.ia (.t 17) (.t 18) 8), [0, 1]⟩, ⟨none, .p 20 (.ld (.t 19) 0 8 true), [2]⟩, ⟨none, .p 21 (.mv (.t 1)), []⟩, ⟨none, .p 22 (.mv (.t 5)), []⟩, ⟨none, .p 23 (.ia (.t 21) (.t 22) 8), [4, 5]⟩, ⟨none, .p 24 (.ld (.t 23) 0 8 true), [6]⟩, ⟨none, .call (some 25) 69 [.rd (.t 20), .rd (.t 24)], [3, 7]⟩, ⟨none, .p 26 (.un .not (.t 25)), [8]⟩] [0, 1, 5, 26]) (.cond (.t 26) (.seq (.reg false [⟨none, .tk 4 (.k (.b false)), []⟩] [4]) .ret) .skip))) (.reg false [⟨none, .p 15 (.mv (.t 5)), []⟩, ⟨none, .p 16 (.bin .add (.t 15) (.k (.i .i64 1))), []⟩, ⟨none, .asg 5 (.t 16), []⟩] [0, 1, 5])))))) (.seq (.reg false [⟨none, .tk 4 (.k (.b true)), []⟩] [4]) .ret))))
theorem code_laws_eqEventS : ∃ c, Tryd.f44.body = some c ∧ cfit PP 27 c c_laws_eqEventS = true := by
  refine ⟨_, (rfl : Tryd.f44.body = some _), ?_⟩
  kernel_rfl
theorem t_eqEventS {G : Glob} (xs ys : List XEvent) : FnD PP G 44 [.val false [.vw none [] (.sl .ow 8 (xs.map XEvent.row))], .val false [.vw none [] (.sl .ow 8 (ys.map XEvent.row))]] [] []
    [.v false [.ow (.lit (.bool (decide (xs = ys))))]] [] [] := by
  refine fn_bd fun hbd => ?_
  have hx : xs.length ≤ 281474976710656 := hbd _ (by simp [hdsA, lenT, Cl.tree])
  clear hbd
  obtain ⟨cc, hb, hcf⟩ := code_laws_eqEventS
  refine fn_ok (fn := Tryd.f44) (specs := [.t 4]) (by kernel_rfl) hb (by show (27:Nat) ≤ 10000; omega) hcf (by kernel_rfl) (by show (2:Nat) ≤ 27; omega) (by simp) (by simp) rfl rfl (by simp) rfl ?_
  simp only [c_laws_eqEventS]
  push_cast
  refine cnd_dec (fun hne => ?_) (fun heq => ?_)
  · push_cast
    have : xs ≠ ys := fun e => hne (by rw [e])
    simp [this]
  · have hl : xs.length = ys.length := by omega
    push_cast
    refine cwp_loop (fun i : Nat => ⟨[(0, .val false [.vw none [] (.sl .ow 8 (xs.map XEvent.row))]), (1, .val false [.vw none [] (.sl .ow 8 (ys.map XEvent.row))]), (5, .val false [.ow (.lit (.int .i64 i))])], []⟩)
      (fun i => i ≤ xs.length ∧ xs.take i = ys.take i) (fun i => xs.length - i) 0 rfl rfl ⟨by omega, by simp⟩ ?_
    rintro i ⟨h1, h2⟩
    push_cast
    refine cnd_dec (fun hlt => ?_) (fun hge => ?_)
    · have hi : i < xs.length := by simpa using hlt
      have hi' : i < ys.length := by omega
      push_cast
      refine draw_any ?_
      push_cast [getD_map hi, getD_map hi', XEvent.row]
      refine ⟨⟨by omega, by omega⟩, ⟨by omega, by omega⟩, ?_⟩
      have hc := t_eqEvent (G := G) xs[i] ys[i]
      simp only [XEvent.vw] at hc
      refine call_ok hc ?_
      push_cast
      refine ⟨by kernel_rfl, cnd_dec (fun he => ?_) (fun hne => ?_)⟩
      · push_cast
        have : xs ≠ ys := fun e => he (by subst e; rfl)
        simp [this]
      · push_cast
        refine ⟨i + 1, ?_, ⟨by omega, ?_⟩, by omega⟩
        · rw [wrap64 (by omega) (by omega)]; rfl
        · have he : xs[i] = ys[i] := Classical.not_not.1 hne
          rw [List.take_succ_eq_append_getElem hi, List.take_succ_eq_append_getElem hi', h2, he]
    · have hi : i = xs.length := by simp at hge; omega
      subst hi
      push_cast
      have : xs = ys := by rw [List.take_length, hl, List.take_length] at h2; exact h2
      simp [this]

noncomputable def c_laws_eqDaemon : ACode := (.seq (.reg false [⟨none, .box 2 (.t 0), []⟩, ⟨none, .box 3 (.t 1), []⟩, ⟨none, .tk 4 (.k (.b false)), []⟩] [2, 3, 10002, 10003]) (.seq (.seq (.reg false [⟨none, .p 5 (.fa (.t 2) 0 0), []⟩, ⟨none, .p 6 (.ld (.t 5) 0 1 false), []⟩, ⟨none, .p 7 (.fa (.t 3) 0 0), []⟩, ⟨none, .p 8 (.ld (.t 7) 0 1 false), []⟩, ⟨none, .p 9 (.bin .neq (.t 6) (.t 8)), []⟩] [2, 3, 9, 10002, 10003]) (.cond (.t 9) (.seq (.reg false [⟨none, .tk 4 (.k (.b false)), []⟩] [4]) .ret) .skip)) (.seq (.seq (.reg false [⟨none, .p 10 (.fa (.t 2) 0 1), []⟩, ⟨none, .p 11 (.ld (.t 10) 0 1 false), []⟩, ⟨none, .p 12 (.fa (.t 3) 0 1), []⟩, ⟨none, .p 13 (.ld (.t 12) 0 1 false), []⟩, ⟨none, .p 14 (.beq true (.t 11) (.t 13)), []⟩] [2, 3, 14, 10002, 10003]) (.cond (.t 14) (.seq (.reg false [⟨none, .tk 4 (.k (.b false)), []⟩] [4]) .ret) .skip)) (.seq (.seq (.reg false [⟨none, .p 15 (.fa (.t 2) 0 2), []⟩, ⟨none, .p 16 (.ld (.t 15) 0 16 true), []⟩, ⟨none, .p 17 (.fa (.t 3) 0 2), []⟩, ⟨none, .p 18 (.ld (.t 17) 0 16 true), []⟩, ⟨none, .call (some 19) 79 [.rd (.t 16), .rd (.t 18)], []⟩, ⟨none, .p 20 (.un .not (.t 19)), []⟩] [2, 3, 20, 10002, 10003]) (.cond (.t 20) (.seq (.reg false [⟨none, .tk 4 (.k (.b false)), []⟩] [4]) .ret) .skip)) (.seq (.seq (.reg false [⟨none, .p 21 (.fa (.t 2) 0 18), []⟩, ⟨none, .p 22 (.ld (.t 21) 0 1 false), []⟩, ⟨none, .p 23 (.fa (.t 3) 0 18), []⟩, ⟨none, .p 24 (.ld (.t 23) 0 1 false), []⟩, ⟨none, .p 25 (.bin .neq (.t 22) (.t 24)), []⟩] [2, 3, 25, 10002, 10003]) (.cond (.t 25) (.seq (.reg false [⟨none, .tk 4 (.k (.b false)), []⟩] [4]) .ret) .skip)) (.seq (.seq (.reg false [⟨none, .p 26 (.fa (.t 2) 0 19), []⟩, ⟨none, .p 27 (.ld (.t 26) 0 1 false), []⟩, ⟨none, .p 28 (.fa (.t 3) 0 19), []⟩, ⟨none, .p 29 (.ld (.t 28) 0 1 false), []⟩, ⟨none, .p 30 (.bin .neq (.t 27) (.t 29)), []⟩] [2, 3, 30, 10002, 10003]) (.cond (.t 30) (.seq (.reg false [⟨none, .tk 4 (.k (.b false)), []⟩] [4]) .ret) .skip)) (.seq (.seq (.reg false [⟨none, .p 31 (.fa (.t 2) 0 20), []⟩, ⟨none, .p 32 (.ld (.t 31) 0 2 true), []⟩, ⟨none, .p 33 (.fa (.t 3) 0 20), []⟩, ⟨none, .p 34 (.ld (.t 33) 0 2 true), []⟩, ⟨none, .call (some 35) 23 [.rd (.t 32), .rd (.t 34)], []⟩, ⟨none, .p 36 (.un .not (.t 35)), []⟩] [2, 3, 36, 10002, 10003]) (.cond (.t 36) (.seq (.reg false [⟨none, .tk 4 (.k (.b false)), []⟩] [4]) .ret) .skip)) (.seq (.seq (.reg false [⟨none, .p 37 (.fa (.t 2) 0 22), []⟩, ⟨none, .p 38 (.ld (.t 37) 0 1 false), []⟩, ⟨none, .p 39 (.fa (.t 3) 0 22), []⟩, ⟨none, .p 40 (.ld (.t 39) 0 1 false), []⟩, ⟨none, .call (some 41) 80 [.rd (.t 38), .rd (.t 40)], []⟩, ⟨none, .p 42 (.un .not (.t 41)), []⟩] [2, 3, 42, 10002, 10003]) (.cond (.t 42) (.seq (.reg false [⟨none, .tk 4 (.k (.b false)), []⟩] [4]) .ret) .skip)) (.seq (.seq (.reg false [⟨none, .p 43 (.fa (.t 2) 0 23), []⟩, ⟨none, .p 44 (.ld (.t 43) 0 1 false), []⟩, ⟨none, .p 45 (.fa (.t 3) 0 23), []⟩, ⟨none, .p 46 (.ld (.t 45) 0 1 false), []⟩, ⟨none, .call (some 47) 44 [.rd (.t 44), .rd (.t 46)], []⟩, ⟨none, .p 48 (.un .not (.t 47)), []⟩] [48]) (.cond (.t 48) (.seq (.reg false [⟨none, .tk 4 (.k (.b false)), []⟩] [4]) .ret) .skip)) (.seq (.reg false [⟨none, .tk 4 (.k (.b true)), []⟩] [4]) .ret))))))))))
theorem code_laws_eqDaemon : ∃ c, Tryd.f67.body = some c ∧ cfit PP 49 c c_laws_eqDaemon = true := by
  refine ⟨_, (rfl : Tryd.f67.body = some _), ?_⟩
  kernel_rfl
theorem t_eqDaemon {G : Glob} (a b : XDaemon) : FnD PP G 67 [.val true a.vw, .val true b.vw] [] []
    [.v false [.ow (.lit (.bool (decide (a = b))))]] [] [] := by
  obtain ⟨cc, hb, hcf⟩ := code_laws_eqDaemon
  refine fn_ok (fn := Tryd.f67) (specs := [.t 4]) (by kernel_rfl) hb (by show (49:Nat) ≤ 10000; omega) hcf (by kernel_rfl) (by show (2:Nat) ≤ 49; omega) (by simp) (by simp) rfl rfl (by simp) rfl ?_
  simp only [c_laws_eqDaemon]
  simp only [XDaemon.vw]
  push_cast
  refine cnd_dec (fun hne => ?_) (fun he0 => ?_)
  · push_cast
    have : a ≠ b := fun e => hne (by rw [e])
    simp [this]
  have he0 : a.Id = b.Id := Classical.not_not.1 he0
  push_cast
  refine cnd_bool (fun hne => ?_) (fun he1 => ?_)
  · push_cast
    have : a ≠ b := fun e => by rw [e] at hne; simp at hne
    simp [this]
  have he1 : a.Dead = b.Dead := by simpa using he1
  push_cast
  have hc := t_eqMate (G := G) a.Mate b.Mate
  simp only [XMate.vw] at hc
  refine call_ok hc ?_
  clear hc
  push_cast
  refine cnd_dec (fun hne => ?_) (fun he2 => ?_)
  · push_cast
    have : a ≠ b := fun e => hne (by rw [e])
    simp [this]
  have he2 : a.Mate = b.Mate := Classical.not_not.1 he2
  push_cast
  refine cnd_dec (fun hne => ?_) (fun he3 => ?_)
  · push_cast
    have : a ≠ b := fun e => hne (by rw [e])
    simp [this]
  have he3 : a.Most = b.Most := Classical.not_not.1 he3
  push_cast
  refine cnd_dec (fun hne => ?_) (fun he4 => ?_)
  · push_cast
    have : a ≠ b := fun e => hne (by rw [e])
    simp [this]
  have he4 : a.Old = b.Old := Classical.not_not.1 he4
  push_cast
  have hc := t_eqRing (G := G) a.Joining b.Joining
  simp only [XRing.vw] at hc
  refine call_ok hc ?_
  clear hc
  push_cast
  refine cnd_dec (fun hne => ?_) (fun he5 => ?_)
  · push_cast
    have : a ≠ b := fun e => hne (by rw [e])
    simp [this]
  have he5 : a.Joining = b.Joining := Classical.not_not.1 he5
  push_cast
  have hc := t_eqBundleS (G := G) a.Bundles b.Bundles
  refine call_ok hc ?_
  clear hc
  push_cast
  refine cnd_dec (fun hne => ?_) (fun he6 => ?_)
  · push_cast
    have : a ≠ b := fun e => hne (by rw [e])
    simp [this]
  have he6 : a.Bundles = b.Bundles := Classical.not_not.1 he6
  push_cast
  have hc := t_eqEventS (G := G) a.Log b.Log
  refine call_ok hc ?_
  clear hc
  push_cast
  refine cnd_dec (fun hne => ?_) (fun he7 => ?_)
  · push_cast
    have : a ≠ b := fun e => hne (by rw [e])
    simp [this]
  have he7 : a.Log = b.Log := Classical.not_not.1 he7
  push_cast
  have : a = b := by
    cases a; cases b
    simp only at he0 he1 he2 he3 he4 he5 he6 he7
    simp only [he0, he1, he2, he3, he4, he5, he6, he7]
  simp [this]

noncomputable def c_laws_eqDaemonS : ACode := (.seq (.reg false [⟨none, .tk 4 (.k (.b false)), []⟩] [0, 1]) (.seq (.seq (.reg false [⟨none, .p 6 (.mv (.t 0)), []⟩, ⟨none, .p 7 (.len false (.t 6)), []⟩, ⟨none, .p 8 (.mv (.t 1)), []⟩, ⟨none, .p 9 (.len false (.t 8)), []⟩, ⟨none, .p 10 (.bin .neq (.t 7) (.t 9)), []⟩] [0, 1, 10]) (.cond (.t 10) (.seq (.reg false [⟨none, .tk 4 (.k (.b false)), []⟩] [4]) .ret) .skip)) (.seq (.seq (.reg false [⟨none, .asg 5 (.k (.i .i64 0)), []⟩] [0, 1, 5]) (.block 0 (.loop [0, 1, 5] (.seq (.seq (.reg false [⟨none, .p 11 (.mv (.t 5)), []⟩, ⟨none, .p 12 (.mv (.t 0)), []⟩, ⟨none, .p 13 (.len false (.t 12)), []⟩, ⟨none, .p 14 (.bin .lss (.t 11) (.t 13)), []⟩] [0, 1, 5, 14]) (.cond (.t 14) .skip (.exit 0 []))) (.seq (.block 1 (.seq (.reg true [⟨none, .p 17 (.mv (.t 0)), []⟩, ⟨none, .p 18 (.mv (.t 5)), []⟩, ⟨none, .p 19 (.ia (.t 17) (.t 18) 24), [0, 1]⟩, ⟨none, .p 20 (.ld (.t 19) 0 24 true), [2]⟩, ⟨none, .p 21 (.mv (.t 1)), []⟩, ⟨none, .p 22 (.mv (.t 5)), []⟩, ⟨none, .p 23 (.ia (.t 21) (.t 22) 24), [4, 5]⟩, ⟨none, .p 24 (.ld (.t 23) 0 24 true), [6]⟩, ⟨none, .call (some 25) 67 [.rd (.t 20), .rd (.t 24)], [3, 7]⟩, ⟨none, .p 26 (.un .not (.t 25)), [8]⟩] [0, 1, 5, 26]) (.cond (.t 26) (.seq (.reg false [⟨none, .tk 4 (.k (.b false)), []⟩] [4]) .ret) .skip))) (.reg false [⟨none, .p 15 (.mv (.t 5)), []⟩, ⟨none, .p 16 (.bin .add (.t 15) (.k (.i .i64 1))), []⟩, ⟨none, .asg 5 (.t 16), []⟩] [0, 1, 5])))))) (.seq (.reg false [⟨none, .tk 4 (.k (.b true)), []⟩] [4]) .ret))))
theorem code_laws_eqDaemonS : ∃ c, Tryd.f42.body = some c ∧ cfit PP 27 c c_laws_eqDaemonS = true := by
  refine ⟨_, (rfl : Tryd.f42.body = some _), ?_⟩
  kernel_rfl
theorem t_eqDaemonS {G : Glob} (xs ys : List XDaemon) : FnD PP G 42 [.val false [.vw none [] (.sl .ow 24 (xs.map XDaemon.row))], .val false [.vw none [] (.sl .ow 24 (ys.map XDaemon.row))]] [] []
    [.v false [.ow (.lit (.bool (decide (xs = ys))))]] [] [] := by
  refine fn_bd fun hbd => ?_
  have hx : xs.length ≤ 281474976710656 := hbd _ (by simp [hdsA, lenT, Cl.tree])
  clear hbd
  obtain ⟨cc, hb, hcf⟩ := code_laws_eqDaemonS
  refine fn_ok (fn := Tryd.f42) (specs := [.t 4]) (by kernel_rfl) hb (by show (27:Nat) ≤ 10000; omega) hcf (by kernel_rfl) (by show (2:Nat) ≤ 27; omega) (by simp) (by simp) rfl rfl (by simp) rfl ?_
  simp only [c_laws_eqDaemonS]
  push_cast
  refine cnd_dec (fun hne => ?_) (fun heq => ?_)
  · push_cast
    have : xs ≠ ys := fun e => hne (by rw [e])
    simp [this]
  · have hl : xs.length = ys.length := by omega
    push_cast
    refine cwp_loop (fun i : Nat => ⟨[(0, .val false [.vw none [] (.sl .ow 24 (xs.map XDaemon.row))]), (1, .val false [.vw none [] (.sl .ow 24 (ys.map XDaemon.row))]), (5, .val false [.ow (.lit (.int .i64 i))])], []⟩)
      (fun i => i ≤ xs.length ∧ xs.take i = ys.take i) (fun i => xs.length - i) 0 rfl rfl ⟨by omega, by simp⟩ ?_
    rintro i ⟨h1, h2⟩
    push_cast
    refine cnd_dec (fun hlt => ?_) (fun hge => ?_)
    · have hi : i < xs.length := by simpa using hlt
      have hi' : i < ys.length := by omega
      push_cast
      refine draw_any ?_
      push_cast [getD_map hi, getD_map hi', XDaemon.row]
      refine ⟨⟨by omega, by omega⟩, ⟨by omega, by omega⟩, ?_⟩
      have hc := t_eqDaemon (G := G) xs[i] ys[i]
      simp only [XDaemon.vw] at hc
      refine call_ok hc ?_
      push_cast
      refine ⟨by kernel_rfl, cnd_dec (fun he => ?_) (fun hne => ?_)⟩
      · push_cast
        have : xs ≠ ys := fun e => he (by subst e; rfl)
        simp [this]
      · push_cast
        refine ⟨i + 1, ?_, ⟨by omega, ?_⟩, by omega⟩
        · rw [wrap64 (by omega) (by omega)]; rfl
        · have he : xs[i] = ys[i] := Classical.not_not.1 hne
          rw [List.take_succ_eq_append_getElem hi, List.take_succ_eq_append_getElem hi', h2, he]
    · have hi : i = xs.length := by simp at hge; omega
      subst hi
      push_cast
      have : xs = ys := by rw [List.take_length, hl, List.take_length] at h2; exact h2
      simp [this]

noncomputable def c_laws_eqLetter : ACode := (.seq (.reg false [⟨none, .box 2 (.t 0), []⟩, ⟨none, .box 3 (.t 1), []⟩, ⟨none, .tk 4 (.k (.b false)), []⟩] [2, 3, 10002, 10003]) (.seq (.seq (.reg false [⟨none, .p 5 (.fa (.t 2) 0 0), []⟩, ⟨none, .p 6 (.ld (.t 5) 0 1 false), []⟩, ⟨none, .p 7 (.fa (.t 3) 0 0), []⟩, ⟨none, .p 8 (.ld (.t 7) 0 1 false), []⟩, ⟨none, .p 9 (.bin .neq (.t 6) (.t 8)), []⟩] [2, 3, 9, 10002, 10003]) (.cond (.t 9) (.seq (.reg false [⟨none, .tk 4 (.k (.b false)), []⟩] [4]) .ret) .skip)) (.seq (.seq (.reg false [⟨none, .p 10 (.fa (.t 2) 0 1), []⟩, ⟨none, .p 11 (.ld (.t 10) 0 1 false), []⟩, ⟨none, .p 12 (.fa (.t 3) 0 1), []⟩, ⟨none, .p 13 (.ld (.t 12) 0 1 false), []⟩, ⟨none, .p 14 (.bin .neq (.t 11) (.t 13)), []⟩] [2, 3, 14, 10002, 10003]) (.cond (.t 14) (.seq (.reg false [⟨none, .tk 4 (.k (.b false)), []⟩] [4]) .ret) .skip)) (.seq (.seq (.reg false [⟨none, .p 15 (.fa (.t 2) 0 2), []⟩, ⟨none, .p 16 (.ld (.t 15) 0 1 false), []⟩, ⟨none, .p 17 (.fa (.t 3) 0 2), []⟩, ⟨none, .p 18 (.ld (.t 17) 0 1 false), []⟩, ⟨none, .p 19 (.bin .neq (.t 16) (.t 18)), []⟩] [2, 3, 19, 10002, 10003]) (.cond (.t 19) (.seq (.reg false [⟨none, .tk 4 (.k (.b false)), []⟩] [4]) .ret) .skip)) (.seq (.seq (.reg false [⟨none, .p 20 (.fa (.t 2) 0 3), []⟩, ⟨none, .p 21 (.ld (.t 20) 0 4 true), []⟩, ⟨none, .p 22 (.fa (.t 3) 0 3), []⟩, ⟨none, .p 23 (.ld (.t 22) 0 4 true), []⟩, ⟨none, .call (some 24) 81 [.rd (.t 21), .rd (.t 23)], []⟩, ⟨none, .p 25 (.un .not (.t 24)), []⟩] [2, 3, 25, 10002, 10003]) (.cond (.t 25) (.seq (.reg false [⟨none, .tk 4 (.k (.b false)), []⟩] [4]) .ret) .skip)) (.seq (.seq (.reg false [⟨none, .p 26 (.fa (.t 2) 0 7), []⟩, ⟨none, .p 27 (.ld (.t 26) 0 6 true), []⟩, ⟨none, .p 28 (.fa (.t 3) 0 7), []⟩, ⟨none, .p 29 (.ld (.t 28) 0 6 true), []⟩, ⟨none, .call (some 30) 82 [.rd (.t 27), .rd (.t 29)], []⟩, ⟨none, .p 31 (.un .not (.t 30)), []⟩] [2, 3, 31, 10002, 10003]) (.cond (.t 31) (.seq (.reg false [⟨none, .tk 4 (.k (.b false)), []⟩] [4]) .ret) .skip)) (.seq (.seq (.reg false [⟨none, .p 32 (.fa (.t 2) 0 13), []⟩, ⟨none, .p 33 (.ld (.t 32) 0 4 true), []⟩, ⟨none, .p 34 (.fa (.t 3) 0 13), []⟩, ⟨none, .p 35 (.ld (.t 34) 0 4 true), []⟩, ⟨none, .call (some 36) 83 [.rd (.t 33), .rd (.t 35)], []⟩, ⟨none, .p 37 (.un .not (.t 36)), []⟩] [37]) (.cond (.t 37) (.seq (.reg false [⟨none, .tk 4 (.k (.b false)), []⟩] [4]) .ret) .skip)) (.seq (.reg false [⟨none, .tk 4 (.k (.b true)), []⟩] [4]) .ret))))))))
theorem code_laws_eqLetter : ∃ c, Tryd.f68.body = some c ∧ cfit PP 38 c c_laws_eqLetter = true := by
  refine ⟨_, (rfl : Tryd.f68.body = some _), ?_⟩
  kernel_rfl
theorem t_eqLetter {G : Glob} (a b : XLetter) : FnD PP G 68 [.val true a.vw, .val true b.vw] [] []
    [.v false [.ow (.lit (.bool (decide (a = b))))]] [] [] := by
  obtain ⟨cc, hb, hcf⟩ := code_laws_eqLetter
  refine fn_ok (fn := Tryd.f68) (specs := [.t 4]) (by kernel_rfl) hb (by show (38:Nat) ≤ 10000; omega) hcf (by kernel_rfl) (by show (2:Nat) ≤ 38; omega) (by simp) (by simp) rfl rfl (by simp) rfl ?_
  simp only [c_laws_eqLetter]
  simp only [XLetter.vw]
  push_cast
  refine cnd_dec (fun hne => ?_) (fun he0 => ?_)
  · push_cast
    have : a ≠ b := fun e => hne (by rw [e])
    simp [this]
  have he0 : a.Kind = b.Kind := Classical.not_not.1 he0
  push_cast
  refine cnd_dec (fun hne => ?_) (fun he1 => ?_)
  · push_cast
    have : a ≠ b := fun e => hne (by rw [e])
    simp [this]
  have he1 : a.To = b.To := Classical.not_not.1 he1
  push_cast
  refine cnd_dec (fun hne => ?_) (fun he2 => ?_)
  · push_cast
    have : a ≠ b := fun e => hne (by rw [e])
    simp [this]
  have he2 : a.Conf = b.Conf := Classical.not_not.1 he2
  push_cast
  have hc := t_eqItem (G := G) a.Item b.Item
  simp only [XItem.vw] at hc
  refine call_ok hc ?_
  clear hc
  push_cast
  refine cnd_dec (fun hne => ?_) (fun he3 => ?_)
  · push_cast
    have : a ≠ b := fun e => hne (by rw [e])
    simp [this]
  have he3 : a.Item = b.Item := Classical.not_not.1 he3
  push_cast
  have hc := t_eqToken (G := G) a.Token b.Token
  simp only [XToken.vw] at hc
  refine call_ok hc ?_
  clear hc
  push_cast
  refine cnd_dec (fun hne => ?_) (fun he4 => ?_)
  · push_cast
    have : a ≠ b := fun e => hne (by rw [e])
    simp [this]
  have he4 : a.Token = b.Token := Classical.not_not.1 he4
  push_cast
  have hc := t_eqBundle (G := G) a.Bundle b.Bundle
  simp only [XBundle.vw] at hc
  refine call_ok hc ?_
  clear hc
  push_cast
  refine cnd_dec (fun hne => ?_) (fun he5 => ?_)
  · push_cast
    have : a ≠ b := fun e => hne (by rw [e])
    simp [this]
  have he5 : a.Bundle = b.Bundle := Classical.not_not.1 he5
  push_cast
  have : a = b := by
    cases a; cases b
    simp only at he0 he1 he2 he3 he4 he5
    simp only [he0, he1, he2, he3, he4, he5]
  simp [this]

noncomputable def c_laws_eqLetterS : ACode := (.seq (.reg false [⟨none, .tk 4 (.k (.b false)), []⟩] [0, 1]) (.seq (.seq (.reg false [⟨none, .p 6 (.mv (.t 0)), []⟩, ⟨none, .p 7 (.len false (.t 6)), []⟩, ⟨none, .p 8 (.mv (.t 1)), []⟩, ⟨none, .p 9 (.len false (.t 8)), []⟩, ⟨none, .p 10 (.bin .neq (.t 7) (.t 9)), []⟩] [0, 1, 10]) (.cond (.t 10) (.seq (.reg false [⟨none, .tk 4 (.k (.b false)), []⟩] [4]) .ret) .skip)) (.seq (.seq (.reg false [⟨none, .asg 5 (.k (.i .i64 0)), []⟩] [0, 1, 5]) (.block 0 (.loop [0, 1, 5] (.seq (.seq (.reg false [⟨none, .p 11 (.mv (.t 5)), []⟩, ⟨none, .p 12 (.mv (.t 0)), []⟩, ⟨none, .p 13 (.len false (.t 12)), []⟩, ⟨none, .p 14 (.bin .lss (.t 11) (.t 13)), []⟩] [0, 1, 5, 14]) (.cond (.t 14) .skip (.exit 0 []))) (.seq (.block 1 (.seq (.reg true [⟨none, .p 17 (.mv (.t 0)), []⟩, ⟨none, .p 18 (.mv (.t 5)), []⟩, ⟨none, .p 19 (.ia (.t 17) (.t 18) 17), [0, 1]⟩, ⟨none, .p 20 (.ld (.t 19) 0 17 true), [2]⟩, ⟨none, .p 21 (.mv (.t 1)), []⟩, ⟨none, .p 22 (.mv (.t 5)), []⟩, ⟨none, .p 23 (.ia (.t 21) (.t 22) 17), [4, 5]⟩, ⟨none, .p 24 (.ld (.t 23) 0 17 true), [6]⟩, ⟨none, .call (some 25) 68 [.rd (.t 20), .rd (.t 24)], [3, 7]⟩, ⟨none, .p 26 (.un .not (.t 25)), [8]⟩] [0, 1, 5, 26]) (.cond (.t 26) (.seq (.reg false [⟨none, .tk 4 (.k (.b false)), []⟩] [4]) .ret) .skip))) (.reg false [⟨none, .p 15 (.mv (.t 5)), []⟩, ⟨none, .p 16 (.bin .add (.t 15) (.k (.i .i64 1))), []⟩, ⟨none, .asg 5 (.t 16), []⟩] [0, 1, 5])))))) (.seq (.reg false [⟨none, .tk 4 (.k (.b true)), []⟩] [4]) .ret))))
theorem code_laws_eqLetterS : ∃ c, Tryd.f43.body = some c ∧ cfit PP 27 c c_laws_eqLetterS = true := by
  refine ⟨_, (rfl : Tryd.f43.body = some _), ?_⟩
  kernel_rfl
theorem t_eqLetterS {G : Glob} (xs ys : List XLetter) : FnD PP G 43 [.val false [.vw none [] (.sl .ow 17 (xs.map XLetter.row))], .val false [.vw none [] (.sl .ow 17 (ys.map XLetter.row))]] [] []
    [.v false [.ow (.lit (.bool (decide (xs = ys))))]] [] [] := by
  refine fn_bd fun hbd => ?_
  have hx : xs.length ≤ 281474976710656 := hbd _ (by simp [hdsA, lenT, Cl.tree])
  clear hbd
  obtain ⟨cc, hb, hcf⟩ := code_laws_eqLetterS
  refine fn_ok (fn := Tryd.f43) (specs := [.t 4]) (by kernel_rfl) hb (by show (27:Nat) ≤ 10000; omega) hcf (by kernel_rfl) (by show (2:Nat) ≤ 27; omega) (by simp) (by simp) rfl rfl (by simp) rfl ?_
  simp only [c_laws_eqLetterS]
  push_cast
  refine cnd_dec (fun hne => ?_) (fun heq => ?_)
  · push_cast
    have : xs ≠ ys := fun e => hne (by rw [e])
    simp [this]
  · have hl : xs.length = ys.length := by omega
    push_cast
    refine cwp_loop (fun i : Nat => ⟨[(0, .val false [.vw none [] (.sl .ow 17 (xs.map XLetter.row))]), (1, .val false [.vw none [] (.sl .ow 17 (ys.map XLetter.row))]), (5, .val false [.ow (.lit (.int .i64 i))])], []⟩)
      (fun i => i ≤ xs.length ∧ xs.take i = ys.take i) (fun i => xs.length - i) 0 rfl rfl ⟨by omega, by simp⟩ ?_
    rintro i ⟨h1, h2⟩
    push_cast
    refine cnd_dec (fun hlt => ?_) (fun hge => ?_)
    · have hi : i < xs.length := by simpa using hlt
      have hi' : i < ys.length := by omega
      push_cast
      refine draw_any ?_
      push_cast [getD_map hi, getD_map hi', XLetter.row]
      refine ⟨⟨by omega, by omega⟩, ⟨by omega, by omega⟩, ?_⟩
      have hc := t_eqLetter (G := G) xs[i] ys[i]
      simp only [XLetter.vw] at hc
      refine call_ok hc ?_
      push_cast
      refine ⟨by kernel_rfl, cnd_dec (fun he => ?_) (fun hne => ?_)⟩
      · push_cast
        have : xs ≠ ys := fun e => he (by subst e; rfl)
        simp [this]
      · push_cast
        refine ⟨i + 1, ?_, ⟨by omega, ?_⟩, by omega⟩
        · rw [wrap64 (by omega) (by omega)]; rfl
        · have he : xs[i] = ys[i] := Classical.not_not.1 hne
          rw [List.take_succ_eq_append_getElem hi, List.take_succ_eq_append_getElem hi', h2, he]
    · have hi : i = xs.length := by simp at hge; omega
      subst hi
      push_cast
      have : xs = ys := by rw [List.take_length, hl, List.take_length] at h2; exact h2
      simp [this]

noncomputable def c_laws_eqWorld : ACode := (.seq (.reg false [⟨none, .box 2 (.t 0), []⟩, ⟨none, .box 3 (.t 1), []⟩, ⟨none, .tk 4 (.k (.b false)), []⟩] [2, 3, 10002, 10003]) (.seq (.seq (.reg false [⟨none, .p 5 (.fa (.t 2) 0 0), []⟩, ⟨none, .p 6 (.ld (.t 5) 0 1 false), []⟩, ⟨none, .p 7 (.fa (.t 3) 0 0), []⟩, ⟨none, .p 8 (.ld (.t 7) 0 1 false), []⟩, ⟨none, .call (some 9) 9 [.rd (.t 6), .rd (.t 8)], []⟩, ⟨none, .p 10 (.un .not (.t 9)), []⟩] [2, 3, 10, 10002, 10003]) (.cond (.t 10) (.seq (.reg false [⟨none, .tk 4 (.k (.b false)), []⟩] [4]) .ret) .skip)) (.seq (.seq (.reg false [⟨none, .p 11 (.fa (.t 2) 0 1), []⟩, ⟨none, .p 12 (.ld (.t 11) 0 1 false), []⟩, ⟨none, .p 13 (.fa (.t 3) 0 1), []⟩, ⟨none, .p 14 (.ld (.t 13) 0 1 false), []⟩, ⟨none, .call (some 15) 42 [.rd (.t 12), .rd (.t 14)], []⟩, ⟨none, .p 16 (.un .not (.t 15)), []⟩] [2, 3, 16, 10002, 10003]) (.cond (.t 16) (.seq (.reg false [⟨none, .tk 4 (.k (.b false)), []⟩] [4]) .ret) .skip)) (.seq (.seq (.reg false [⟨none, .p 17 (.fa (.t 2) 0 2), []⟩, ⟨none, .p 18 (.ld (.t 17) 0 1 false), []⟩, ⟨none, .p 19 (.fa (.t 3) 0 2), []⟩, ⟨none, .p 20 (.ld (.t 19) 0 1 false), []⟩, ⟨none, .call (some 21) 43 [.rd (.t 18), .rd (.t 20)], []⟩, ⟨none, .p 22 (.un .not (.t 21)), []⟩] [2, 3, 22, 10002, 10003]) (.cond (.t 22) (.seq (.reg false [⟨none, .tk 4 (.k (.b false)), []⟩] [4]) .ret) .skip)) (.seq (.seq (.reg false [⟨none, .p 23 (.fa (.t 2) 0 3), []⟩, ⟨none, .p 24 (.ld (.t 23) 0 1 false), []⟩, ⟨none, .p 25 (.fa (.t 3) 0 3), []⟩, ⟨none, .p 26 (.ld (.t 25) 0 1 false), []⟩, ⟨none, .call (some 27) 44 [.rd (.t 24), .rd (.t 26)], []⟩, ⟨none, .p 28 (.un .not (.t 27)), []⟩] [28]) (.cond (.t 28) (.seq (.reg false [⟨none, .tk 4 (.k (.b false)), []⟩] [4]) .ret) .skip)) (.seq (.reg false [⟨none, .tk 4 (.k (.b true)), []⟩] [4]) .ret))))))
theorem code_laws_eqWorld : ∃ c, Tryd.f19.body = some c ∧ cfit PP 29 c c_laws_eqWorld = true := by
  refine ⟨_, (rfl : Tryd.f19.body = some _), ?_⟩
  kernel_rfl
theorem t_eqWorld {G : Glob} (a b : XWorld) : FnD PP G 19 [.val true a.vw, .val true b.vw] [] []
    [.v false [.ow (.lit (.bool (decide (a = b))))]] [] [] := by
  obtain ⟨cc, hb, hcf⟩ := code_laws_eqWorld
  refine fn_ok (fn := Tryd.f19) (specs := [.t 4]) (by kernel_rfl) hb (by show (29:Nat) ≤ 10000; omega) hcf (by kernel_rfl) (by show (2:Nat) ≤ 29; omega) (by simp) (by simp) rfl rfl (by simp) rfl ?_
  simp only [c_laws_eqWorld]
  simp only [XWorld.vw]
  push_cast
  have hc := t_eqRingS (G := G) a.Rings b.Rings
  refine call_ok hc ?_
  clear hc
  push_cast
  refine cnd_dec (fun hne => ?_) (fun he0 => ?_)
  · push_cast
    have : a ≠ b := fun e => hne (by rw [e])
    simp [this]
  have he0 : a.Rings = b.Rings := Classical.not_not.1 he0
  push_cast
  have hc := t_eqDaemonS (G := G) a.Daemons b.Daemons
  refine call_ok hc ?_
  clear hc
  push_cast
  refine cnd_dec (fun hne => ?_) (fun he1 => ?_)
  · push_cast
    have : a ≠ b := fun e => hne (by rw [e])
    simp [this]
  have he1 : a.Daemons = b.Daemons := Classical.not_not.1 he1
  push_cast
  have hc := t_eqLetterS (G := G) a.Letters b.Letters
  refine call_ok hc ?_
  clear hc
  push_cast
  refine cnd_dec (fun hne => ?_) (fun he2 => ?_)
  · push_cast
    have : a ≠ b := fun e => hne (by rw [e])
    simp [this]
  have he2 : a.Letters = b.Letters := Classical.not_not.1 he2
  push_cast
  have hc := t_eqEventS (G := G) a.Numbered b.Numbered
  refine call_ok hc ?_
  clear hc
  push_cast
  refine cnd_dec (fun hne => ?_) (fun he3 => ?_)
  · push_cast
    have : a ≠ b := fun e => hne (by rw [e])
    simp [this]
  have he3 : a.Numbered = b.Numbered := Classical.not_not.1 he3
  push_cast
  have : a = b := by
    cases a; cases b
    simp only at he0 he1 he2 he3
    simp only [he0, he1, he2, he3]
  simp [this]

noncomputable def c_laws_eqReader : ACode := (.seq (.reg false [⟨none, .box 2 (.t 0), []⟩, ⟨none, .box 3 (.t 1), []⟩, ⟨none, .tk 4 (.k (.b false)), []⟩] [2, 3, 10002, 10003]) (.seq (.seq (.reg false [⟨none, .p 5 (.fa (.t 2) 0 0), []⟩, ⟨none, .p 6 (.ld (.t 5) 0 1 false), []⟩, ⟨none, .p 7 (.fa (.t 3) 0 0), []⟩, ⟨none, .p 8 (.ld (.t 7) 0 1 false), []⟩, ⟨none, .p 9 (.bin .neq (.t 6) (.t 8)), []⟩] [2, 3, 9, 10002, 10003]) (.cond (.t 9) (.seq (.reg false [⟨none, .tk 4 (.k (.b false)), []⟩] [4]) .ret) .skip)) (.seq (.seq (.reg false [⟨none, .p 10 (.fa (.t 2) 0 1), []⟩, ⟨none, .p 11 (.ld (.t 10) 0 1 false), []⟩, ⟨none, .p 12 (.fa (.t 3) 0 1), []⟩, ⟨none, .p 13 (.ld (.t 12) 0 1 false), []⟩, ⟨none, .p 14 (.beq true (.t 11) (.t 13)), []⟩] [14]) (.cond (.t 14) (.seq (.reg false [⟨none, .tk 4 (.k (.b false)), []⟩] [4]) .ret) .skip)) (.seq (.reg false [⟨none, .tk 4 (.k (.b true)), []⟩] [4]) .ret))))
theorem code_laws_eqReader : ∃ c, Tryd.f84.body = some c ∧ cfit PP 15 c c_laws_eqReader = true := by
  refine ⟨_, (rfl : Tryd.f84.body = some _), ?_⟩
  kernel_rfl
theorem t_eqReader {G : Glob} (a b : XReader) : FnD PP G 84 [.val true a.vw, .val true b.vw] [] []
    [.v false [.ow (.lit (.bool (decide (a = b))))]] [] [] := by
  obtain ⟨cc, hb, hcf⟩ := code_laws_eqReader
  refine fn_ok (fn := Tryd.f84) (specs := [.t 4]) (by kernel_rfl) hb (by show (15:Nat) ≤ 10000; omega) hcf (by kernel_rfl) (by show (2:Nat) ≤ 15; omega) (by simp) (by simp) rfl rfl (by simp) rfl ?_
  simp only [c_laws_eqReader]
  simp only [XReader.vw]
  push_cast
  refine cnd_dec (fun hne => ?_) (fun he0 => ?_)
  · push_cast
    have : a ≠ b := fun e => hne (by rw [e])
    simp [this]
  have he0 : a.Rest = b.Rest := Classical.not_not.1 he0
  push_cast
  refine cnd_bool (fun hne => ?_) (fun he1 => ?_)
  · push_cast
    have : a ≠ b := fun e => by rw [e] at hne; simp at hne
    simp [this]
  have he1 : a.Bad = b.Bad := by simpa using he1
  push_cast
  have : a = b := by
    cases a; cases b
    simp only at he0 he1
    simp only [he0, he1]
  simp [this]

noncomputable def c_laws_eqSession : ACode := (.seq (.reg false [⟨none, .box 2 (.t 0), []⟩, ⟨none, .box 3 (.t 1), []⟩, ⟨none, .tk 4 (.k (.b false)), []⟩] [2, 3, 10002, 10003]) (.seq (.seq (.reg false [⟨none, .p 5 (.fa (.t 2) 0 0), []⟩, ⟨none, .p 6 (.ld (.t 5) 0 1 false), []⟩, ⟨none, .p 7 (.fa (.t 3) 0 0), []⟩, ⟨none, .p 8 (.ld (.t 7) 0 1 false), []⟩, ⟨none, .p 9 (.bin .neq (.t 6) (.t 8)), []⟩] [2, 3, 9, 10002, 10003]) (.cond (.t 9) (.seq (.reg false [⟨none, .tk 4 (.k (.b false)), []⟩] [4]) .ret) .skip)) (.seq (.seq (.reg false [⟨none, .p 10 (.fa (.t 2) 0 1), []⟩, ⟨none, .p 11 (.ld (.t 10) 0 1 false), []⟩, ⟨none, .p 12 (.fa (.t 3) 0 1), []⟩, ⟨none, .p 13 (.ld (.t 12) 0 1 false), []⟩, ⟨none, .p 14 (.bin .neq (.t 11) (.t 13)), []⟩] [2, 3, 14, 10002, 10003]) (.cond (.t 14) (.seq (.reg false [⟨none, .tk 4 (.k (.b false)), []⟩] [4]) .ret) .skip)) (.seq (.seq (.reg false [⟨none, .p 15 (.fa (.t 2) 0 2), []⟩, ⟨none, .p 16 (.ld (.t 15) 0 2 true), []⟩, ⟨none, .p 17 (.fa (.t 3) 0 2), []⟩, ⟨none, .p 18 (.ld (.t 17) 0 2 true), []⟩, ⟨none, .call (some 19) 84 [.rd (.t 16), .rd (.t 18)], []⟩, ⟨none, .p 20 (.un .not (.t 19)), []⟩] [2, 3, 20, 10002, 10003]) (.cond (.t 20) (.seq (.reg false [⟨none, .tk 4 (.k (.b false)), []⟩] [4]) .ret) .skip)) (.seq (.seq (.reg false [⟨none, .p 21 (.fa (.t 2) 0 4), []⟩, ⟨none, .p 22 (.ld (.t 21) 0 1 false), []⟩, ⟨none, .p 23 (.fa (.t 3) 0 4), []⟩, ⟨none, .p 24 (.ld (.t 23) 0 1 false), []⟩, ⟨none, .p 25 (.beq true (.t 22) (.t 24)), []⟩] [2, 3, 25, 10002, 10003]) (.cond (.t 25) (.seq (.reg false [⟨none, .tk 4 (.k (.b false)), []⟩] [4]) .ret) .skip)) (.seq (.seq (.reg false [⟨none, .p 26 (.fa (.t 2) 0 5), []⟩, ⟨none, .p 27 (.ld (.t 26) 0 1 false), []⟩, ⟨none, .p 28 (.fa (.t 3) 0 5), []⟩, ⟨none, .p 29 (.ld (.t 28) 0 1 false), []⟩, ⟨none, .call (some 30) 72 [.rd (.t 27), .rd (.t 29)], []⟩, ⟨none, .p 31 (.un .not (.t 30)), []⟩] [31]) (.cond (.t 31) (.seq (.reg false [⟨none, .tk 4 (.k (.b false)), []⟩] [4]) .ret) .skip)) (.seq (.reg false [⟨none, .tk 4 (.k (.b true)), []⟩] [4]) .ret)))))))
theorem code_laws_eqSession : ∃ c, Tryd.f70.body = some c ∧ cfit PP 32 c c_laws_eqSession = true := by
  refine ⟨_, (rfl : Tryd.f70.body = some _), ?_⟩
  kernel_rfl
theorem t_eqSession {G : Glob} (a b : XSession) : FnD PP G 70 [.val true a.vw, .val true b.vw] [] []
    [.v false [.ow (.lit (.bool (decide (a = b))))]] [] [] := by
  obtain ⟨cc, hb, hcf⟩ := code_laws_eqSession
  refine fn_ok (fn := Tryd.f70) (specs := [.t 4]) (by kernel_rfl) hb (by show (32:Nat) ≤ 10000; omega) hcf (by kernel_rfl) (by show (2:Nat) ≤ 32; omega) (by simp) (by simp) rfl rfl (by simp) rfl ?_
  simp only [c_laws_eqSession]
  simp only [XSession.vw]
  push_cast
  refine cnd_dec (fun hne => ?_) (fun he0 => ?_)
  · push_cast
    have : a ≠ b := fun e => hne (by rw [e])
    simp [this]
  have he0 : a.Daemon = b.Daemon := Classical.not_not.1 he0
  push_cast
  refine cnd_dec (fun hne => ?_) (fun he1 => ?_)
  · push_cast
    have : a ≠ b := fun e => hne (by rw [e])
    simp [this]
  have he1 : a.Name = b.Name := Classical.not_not.1 he1
  push_cast
  have hc := t_eqReader (G := G) a.Read b.Read
  simp only [XReader.vw] at hc
  refine call_ok hc ?_
  clear hc
  push_cast
  refine cnd_dec (fun hne => ?_) (fun he2 => ?_)
  · push_cast
    have : a ≠ b := fun e => hne (by rw [e])
    simp [this]
  have he2 : a.Read = b.Read := Classical.not_not.1 he2
  push_cast
  refine cnd_bool (fun hne => ?_) (fun he3 => ?_)
  · push_cast
    have : a ≠ b := fun e => by rw [e] at hne; simp at hne
    simp [this]
  have he3 : a.Shut = b.Shut := by simpa using he3
  push_cast
  have hc := t_eqStringS (G := G) a.In b.In
  refine call_ok hc ?_
  clear hc
  push_cast
  refine cnd_dec (fun hne => ?_) (fun he4 => ?_)
  · push_cast
    have : a ≠ b := fun e => hne (by rw [e])
    simp [this]
  have he4 : a.In = b.In := Classical.not_not.1 he4
  push_cast
  have : a = b := by
    cases a; cases b
    simp only at he0 he1 he2 he3 he4
    simp only [he0, he1, he2, he3, he4]
  simp [this]

noncomputable def c_laws_eqBox : ACode := (.seq (.reg false [⟨none, .box 2 (.t 0), []⟩, ⟨none, .box 3 (.t 1), []⟩, ⟨none, .tk 4 (.k (.b false)), []⟩] [2, 3, 10002, 10003]) (.seq (.seq (.reg false [⟨none, .p 5 (.fa (.t 2) 0 0), []⟩, ⟨none, .p 6 (.ld (.t 5) 0 1 false), []⟩, ⟨none, .p 7 (.fa (.t 3) 0 0), []⟩, ⟨none, .p 8 (.ld (.t 7) 0 1 false), []⟩, ⟨none, .p 9 (.bin .neq (.t 6) (.t 8)), []⟩] [2, 3, 9, 10002, 10003]) (.cond (.t 9) (.seq (.reg false [⟨none, .tk 4 (.k (.b false)), []⟩] [4]) .ret) .skip)) (.seq (.seq (.reg false [⟨none, .p 10 (.fa (.t 2) 0 1), []⟩, ⟨none, .p 11 (.ld (.t 10) 0 1 false), []⟩, ⟨none, .p 12 (.fa (.t 3) 0 1), []⟩, ⟨none, .p 13 (.ld (.t 12) 0 1 false), []⟩, ⟨none, .call (some 14) 72 [.rd (.t 11), .rd (.t 13)], []⟩, ⟨none, .p 15 (.un .not (.t 14)), []⟩] [2, 3, 15, 10002, 10003]) (.cond (.t 15) (.seq (.reg false [⟨none, .tk 4 (.k (.b false)), []⟩] [4]) .ret) .skip)) (.seq (.seq (.reg false [⟨none, .p 16 (.fa (.t 2) 0 2), []⟩, ⟨none, .p 17 (.ld (.t 16) 0 1 false), []⟩, ⟨none, .p 18 (.fa (.t 3) 0 2), []⟩, ⟨none, .p 19 (.ld (.t 18) 0 1 false), []⟩, ⟨none, .p 20 (.beq true (.t 17) (.t 19)), []⟩] [20]) (.cond (.t 20) (.seq (.reg false [⟨none, .tk 4 (.k (.b false)), []⟩] [4]) .ret) .skip)) (.seq (.reg false [⟨none, .tk 4 (.k (.b true)), []⟩] [4]) .ret)))))
theorem code_laws_eqBox : ∃ c, Tryd.f71.body = some c ∧ cfit PP 21 c c_laws_eqBox = true := by
  refine ⟨_, (rfl : Tryd.f71.body = some _), ?_⟩
  kernel_rfl
theorem t_eqBox {G : Glob} (a b : XBox) : FnD PP G 71 [.val true a.vw, .val true b.vw] [] []
    [.v false [.ow (.lit (.bool (decide (a = b))))]] [] [] := by
  obtain ⟨cc, hb, hcf⟩ := code_laws_eqBox
  refine fn_ok (fn := Tryd.f71) (specs := [.t 4]) (by kernel_rfl) hb (by show (21:Nat) ≤ 10000; omega) hcf (by kernel_rfl) (by show (2:Nat) ≤ 21; omega) (by simp) (by simp) rfl rfl (by simp) rfl ?_
  simp only [c_laws_eqBox]
  simp only [XBox.vw]
  push_cast
  refine cnd_dec (fun hne => ?_) (fun he0 => ?_)
  · push_cast
    have : a ≠ b := fun e => hne (by rw [e])
    simp [this]
  have he0 : a.Name = b.Name := Classical.not_not.1 he0
  push_cast
  have hc := t_eqStringS (G := G) a.Texts b.Texts
  refine call_ok hc ?_
  clear hc
  push_cast
  refine cnd_dec (fun hne => ?_) (fun he1 => ?_)
  · push_cast
    have : a ≠ b := fun e => hne (by rw [e])
    simp [this]
  have he1 : a.Texts = b.Texts := Classical.not_not.1 he1
  push_cast
  refine cnd_bool (fun hne => ?_) (fun he2 => ?_)
  · push_cast
    have : a ≠ b := fun e => by rw [e] at hne; simp at hne
    simp [this]
  have he2 : a.Over = b.Over := by simpa using he2
  push_cast
  have : a = b := by
    cases a; cases b
    simp only at he0 he1 he2
    simp only [he0, he1, he2]
  simp [this]

noncomputable def c_laws_eqCaller : ACode := (.seq (.reg false [⟨none, .box 2 (.t 0), []⟩, ⟨none, .box 3 (.t 1), []⟩, ⟨none, .tk 4 (.k (.b false)), []⟩] [2, 3, 10002, 10003]) (.seq (.seq (.reg false [⟨none, .p 5 (.fa (.t 2) 0 0), []⟩, ⟨none, .p 6 (.ld (.t 5) 0 6 true), []⟩, ⟨none, .p 7 (.fa (.t 3) 0 0), []⟩, ⟨none, .p 8 (.ld (.t 7) 0 6 true), []⟩, ⟨none, .call (some 9) 70 [.rd (.t 6), .rd (.t 8)], []⟩, ⟨none, .p 10 (.un .not (.t 9)), []⟩] [2, 3, 10, 10002, 10003]) (.cond (.t 10) (.seq (.reg false [⟨none, .tk 4 (.k (.b false)), []⟩] [4]) .ret) .skip)) (.seq (.seq (.reg false [⟨none, .p 11 (.fa (.t 2) 0 6), []⟩, ⟨none, .p 12 (.ld (.t 11) 0 3 true), []⟩, ⟨none, .p 13 (.fa (.t 3) 0 6), []⟩, ⟨none, .p 14 (.ld (.t 13) 0 3 true), []⟩, ⟨none, .call (some 15) 71 [.rd (.t 12), .rd (.t 14)], []⟩, ⟨none, .p 16 (.un .not (.t 15)), []⟩] [2, 3, 16, 10002, 10003]) (.cond (.t 16) (.seq (.reg false [⟨none, .tk 4 (.k (.b false)), []⟩] [4]) .ret) .skip)) (.seq (.seq (.reg false [⟨none, .p 17 (.fa (.t 2) 0 9), []⟩, ⟨none, .p 18 (.ld (.t 17) 0 1 false), []⟩, ⟨none, .p 19 (.fa (.t 3) 0 9), []⟩, ⟨none, .p 20 (.ld (.t 19) 0 1 false), []⟩, ⟨none, .p 21 (.bin .neq (.t 18) (.t 20)), []⟩] [2, 3, 21, 10002, 10003]) (.cond (.t 21) (.seq (.reg false [⟨none, .tk 4 (.k (.b false)), []⟩] [4]) .ret) .skip)) (.seq (.seq (.reg false [⟨none, .p 22 (.fa (.t 2) 0 10), []⟩, ⟨none, .p 23 (.ld (.t 22) 0 1 false), []⟩, ⟨none, .p 24 (.fa (.t 3) 0 10), []⟩, ⟨none, .p 25 (.ld (.t 24) 0 1 false), []⟩, ⟨none, .call (some 26) 72 [.rd (.t 23), .rd (.t 25)], []⟩, ⟨none, .p 27 (.un .not (.t 26)), []⟩] [27]) (.cond (.t 27) (.seq (.reg false [⟨none, .tk 4 (.k (.b false)), []⟩] [4]) .ret) .skip)) (.seq (.reg false [⟨none, .tk 4 (.k (.b true)), []⟩] [4]) .ret))))))
theorem code_laws_eqCaller : ∃ c, Tryd.f45.body = some c ∧ cfit PP 28 c c_laws_eqCaller = true := by
  refine ⟨_, (rfl : Tryd.f45.body = some _), ?_⟩
  kernel_rfl
theorem t_eqCaller {G : Glob} (a b : XCaller) : FnD PP G 45 [.val true a.vw, .val true b.vw] [] []
    [.v false [.ow (.lit (.bool (decide (a = b))))]] [] [] := by
  obtain ⟨cc, hb, hcf⟩ := code_laws_eqCaller
  refine fn_ok (fn := Tryd.f45) (specs := [.t 4]) (by kernel_rfl) hb (by show (28:Nat) ≤ 10000; omega) hcf (by kernel_rfl) (by show (2:Nat) ≤ 28; omega) (by simp) (by simp) rfl rfl (by simp) rfl ?_
  simp only [c_laws_eqCaller]
  simp only [XCaller.vw]
  push_cast
  have hc := t_eqSession (G := G) a.Session b.Session
  simp only [XSession.vw] at hc
  refine call_ok hc ?_
  clear hc
  push_cast
  refine cnd_dec (fun hne => ?_) (fun he0 => ?_)
  · push_cast
    have : a ≠ b := fun e => hne (by rw [e])
    simp [this]
  have he0 : a.Session = b.Session := Classical.not_not.1 he0
  push_cast
  have hc := t_eqBox (G := G) a.Box b.Box
  simp only [XBox.vw] at hc
  refine call_ok hc ?_
  clear hc
  push_cast
  refine cnd_dec (fun hne => ?_) (fun he1 => ?_)
  · push_cast
    have : a ≠ b := fun e => hne (by rw [e])
    simp [this]
  have he1 : a.Box = b.Box := Classical.not_not.1 he1
  push_cast
  refine cnd_dec (fun hne => ?_) (fun he2 => ?_)
  · push_cast
    have : a ≠ b := fun e => hne (by rw [e])
    simp [this]
  have he2 : a.Fault = b.Fault := Classical.not_not.1 he2
  push_cast
  have hc := t_eqStringS (G := G) a.Got b.Got
  refine call_ok hc ?_
  clear hc
  push_cast
  refine cnd_dec (fun hne => ?_) (fun he3 => ?_)
  · push_cast
    have : a ≠ b := fun e => hne (by rw [e])
    simp [this]
  have he3 : a.Got = b.Got := Classical.not_not.1 he3
  push_cast
  have : a = b := by
    cases a; cases b
    simp only at he0 he1 he2 he3
    simp only [he0, he1, he2, he3]
  simp [this]

noncomputable def c_laws_eqCallerS : ACode := (.seq (.reg false [⟨none, .tk 4 (.k (.b false)), []⟩] [0, 1]) (.seq (.seq (.reg false [⟨none, .p 6 (.mv (.t 0)), []⟩, ⟨none, .p 7 (.len false (.t 6)), []⟩, ⟨none, .p 8 (.mv (.t 1)), []⟩, ⟨none, .p 9 (.len false (.t 8)), []⟩, ⟨none, .p 10 (.bin .neq (.t 7) (.t 9)), []⟩] [0, 1, 10]) (.cond (.t 10) (.seq (.reg false [⟨none, .tk 4 (.k (.b false)), []⟩] [4]) .ret) .skip)) (.seq (.seq (.reg false [⟨none, .asg 5 (.k (.i .i64 0)), []⟩] [0, 1, 5]) (.block 0 (.loop [0, 1, 5] (.seq (.seq (.reg false [⟨none, .p 11 (.mv (.t 5)), []⟩, ⟨none, .p 12 (.mv (.t 0)), []⟩, ⟨none, .p 13 (.len false (.t 12)), []⟩, ⟨none, .p 14 (.bin .lss (.t 11) (.t 13)), []⟩] [0, 1, 5, 14]) (.cond (.t 14) .skip (.exit 0 []))) (.seq (.block 1 (.seq (.reg true [⟨none, .p 17 (.mv (.t 0)), []⟩, ⟨none, .p 18 (.mv (.t 5)), []⟩, ⟨none, .p 19 (.ia (.t 17) (.t 18) 11), [0, 1]⟩, ⟨none, .p 20 (.ld (.t 19) 0 11 true), [2]⟩, ⟨none, .p 21 (.mv (.t 1)), []⟩, ⟨none, .p 22 (.mv (.t 5)), []⟩, ⟨none, .p 23 (.ia (.t 21) (.t 22) 11), [4, 5]⟩, ⟨none, .p 24 (.ld (.t 23) 0 11 true), [6]⟩, ⟨none, .call (some 25) 45 [.rd (.t 20), .rd (.t 24)], [3, 7]⟩, ⟨none, .p 26 (.un .not (.t 25)), [8]⟩] [0, 1, 5, 26]) (.cond (.t 26) (.seq (.reg false [⟨none, .tk 4 (.k (.b false)), []⟩] [4]) .ret) .skip))) (.reg false [⟨none, .p 15 (.mv (.t 5)), []⟩, ⟨none, .p 16 (.bin .add (.t 15) (.k (.i .i64 1))), []⟩, ⟨none, .asg 5 (.t 16), []⟩] [0, 1, 5])))))) (.seq (.reg false [⟨none, .tk 4 (.k (.b true)), []⟩] [4]) .ret))))
theorem code_laws_eqCallerS : ∃ c, Tryd.f20.body = some c ∧ cfit PP 27 c c_laws_eqCallerS = true := by
  refine ⟨_, (rfl : Tryd.f20.body = some _), ?_⟩
  kernel_rfl
theorem t_eqCallerS {G : Glob} (xs ys : List XCaller) : FnD PP G 20 [.val false [.vw none [] (.sl .ow 11 (xs.map XCaller.row))], .val false [.vw none [] (.sl .ow 11 (ys.map XCaller.row))]] [] []
    [.v false [.ow (.lit (.bool (decide (xs = ys))))]] [] [] := by
  refine fn_bd fun hbd => ?_
  have hx : xs.length ≤ 281474976710656 := hbd _ (by simp [hdsA, lenT, Cl.tree])
  clear hbd
  obtain ⟨cc, hb, hcf⟩ := code_laws_eqCallerS
  refine fn_ok (fn := Tryd.f20) (specs := [.t 4]) (by kernel_rfl) hb (by show (27:Nat) ≤ 10000; omega) hcf (by kernel_rfl) (by show (2:Nat) ≤ 27; omega) (by simp) (by simp) rfl rfl (by simp) rfl ?_
  simp only [c_laws_eqCallerS]
  push_cast
  refine cnd_dec (fun hne => ?_) (fun heq => ?_)
  · push_cast
    have : xs ≠ ys := fun e => hne (by rw [e])
    simp [this]
  · have hl : xs.length = ys.length := by omega
    push_cast
    refine cwp_loop (fun i : Nat => ⟨[(0, .val false [.vw none [] (.sl .ow 11 (xs.map XCaller.row))]), (1, .val false [.vw none [] (.sl .ow 11 (ys.map XCaller.row))]), (5, .val false [.ow (.lit (.int .i64 i))])], []⟩)
      (fun i => i ≤ xs.length ∧ xs.take i = ys.take i) (fun i => xs.length - i) 0 rfl rfl ⟨by omega, by simp⟩ ?_
    rintro i ⟨h1, h2⟩
    push_cast
    refine cnd_dec (fun hlt => ?_) (fun hge => ?_)
    · have hi : i < xs.length := by simpa using hlt
      have hi' : i < ys.length := by omega
      push_cast
      refine draw_any ?_
      push_cast [getD_map hi, getD_map hi', XCaller.row]
      refine ⟨⟨by omega, by omega⟩, ⟨by omega, by omega⟩, ?_⟩
      have hc := t_eqCaller (G := G) xs[i] ys[i]
      simp only [XCaller.vw] at hc
      refine call_ok hc ?_
      push_cast
      refine ⟨by kernel_rfl, cnd_dec (fun he => ?_) (fun hne => ?_)⟩
      · push_cast
        have : xs ≠ ys := fun e => he (by subst e; rfl)
        simp [this]
      · push_cast
        refine ⟨i + 1, ?_, ⟨by omega, ?_⟩, by omega⟩
        · rw [wrap64 (by omega) (by omega)]; rfl
        · have he : xs[i] = ys[i] := Classical.not_not.1 hne
          rw [List.take_succ_eq_append_getElem hi, List.take_succ_eq_append_getElem hi', h2, he]
    · have hi : i = xs.length := by simp at hge; omega
      subst hi
      push_cast
      have : xs = ys := by rw [List.take_length, hl, List.take_length] at h2; exact h2
      simp [this]

noncomputable def c_laws_eqGroup : ACode := (.seq (.reg false [⟨none, .box 2 (.t 0), []⟩, ⟨none, .box 3 (.t 1), []⟩, ⟨none, .tk 4 (.k (.b false)), []⟩] [2, 3, 10002, 10003]) (.seq (.seq (.reg false [⟨none, .p 5 (.fa (.t 2) 0 0), []⟩, ⟨none, .p 6 (.ld (.t 5) 0 1 false), []⟩, ⟨none, .p 7 (.fa (.t 3) 0 0), []⟩, ⟨none, .p 8 (.ld (.t 7) 0 1 false), []⟩, ⟨none, .p 9 (.bin .neq (.t 6) (.t 8)), []⟩] [2, 3, 9, 10002, 10003]) (.cond (.t 9) (.seq (.reg false [⟨none, .tk 4 (.k (.b false)), []⟩] [4]) .ret) .skip)) (.seq (.seq (.reg false [⟨none, .p 10 (.fa (.t 2) 0 1), []⟩, ⟨none, .p 11 (.ld (.t 10) 0 1 false), []⟩, ⟨none, .p 12 (.fa (.t 3) 0 1), []⟩, ⟨none, .p 13 (.ld (.t 12) 0 1 false), []⟩, ⟨none, .call (some 14) 72 [.rd (.t 11), .rd (.t 13)], []⟩, ⟨none, .p 15 (.un .not (.t 14)), []⟩] [15]) (.cond (.t 15) (.seq (.reg false [⟨none, .tk 4 (.k (.b false)), []⟩] [4]) .ret) .skip)) (.seq (.reg false [⟨none, .tk 4 (.k (.b true)), []⟩] [4]) .ret))))
theorem code_laws_eqGroup : ∃ c, Tryd.f85.body = some c ∧ cfit PP 16 c c_laws_eqGroup = true := by
  refine ⟨_, (rfl : Tryd.f85.body = some _), ?_⟩
  kernel_rfl
theorem t_eqGroup {G : Glob} (a b : XGroup) : FnD PP G 85 [.val true a.vw, .val true b.vw] [] []
    [.v false [.ow (.lit (.bool (decide (a = b))))]] [] [] := by
  obtain ⟨cc, hb, hcf⟩ := code_laws_eqGroup
  refine fn_ok (fn := Tryd.f85) (specs := [.t 4]) (by kernel_rfl) hb (by show (16:Nat) ≤ 10000; omega) hcf (by kernel_rfl) (by show (2:Nat) ≤ 16; omega) (by simp) (by simp) rfl rfl (by simp) rfl ?_
  simp only [c_laws_eqGroup]
  simp only [XGroup.vw]
  push_cast
  refine cnd_dec (fun hne => ?_) (fun he0 => ?_)
  · push_cast
    have : a ≠ b := fun e => hne (by rw [e])
    simp [this]
  have he0 : a.Name = b.Name := Classical.not_not.1 he0
  push_cast
  have hc := t_eqStringS (G := G) a.Members b.Members
  refine call_ok hc ?_
  clear hc
  push_cast
  refine cnd_dec (fun hne => ?_) (fun he1 => ?_)
  · push_cast
    have : a ≠ b := fun e => hne (by rw [e])
    simp [this]
  have he1 : a.Members = b.Members := Classical.not_not.1 he1
  push_cast
  have : a = b := by
    cases a; cases b
    simp only at he0 he1
    simp only [he0, he1]
  simp [this]

noncomputable def c_laws_eqGroupS : ACode := (.seq (.reg false [⟨none, .tk 4 (.k (.b false)), []⟩] [0, 1]) (.seq (.seq (.reg false [⟨none, .p 6 (.mv (.t 0)), []⟩, ⟨none, .p 7 (.len false (.t 6)), []⟩, ⟨none, .p 8 (.mv (.t 1)), []⟩, ⟨none, .p 9 (.len false (.t 8)), []⟩, ⟨none, .p 10 (.bin .neq (.t 7) (.t 9)), []⟩] [0, 1, 10]) (.cond (.t 10) (.seq (.reg false [⟨none, .tk 4 (.k (.b false)), []⟩] [4]) .ret) .skip)) (.seq (.seq (.reg false [⟨none, .asg 5 (.k (.i .i64 0)), []⟩] [0, 1, 5]) (.block 0 (.loop [0, 1, 5] (.seq (.seq (.reg false [⟨none, .p 11 (.mv (.t 5)), []⟩, ⟨none, .p 12 (.mv (.t 0)), []⟩, ⟨none, .p 13 (.len false (.t 12)), []⟩, ⟨none, .p 14 (.bin .lss (.t 11) (.t 13)), []⟩] [0, 1, 5, 14]) (.cond (.t 14) .skip (.exit 0 []))) (.seq (.block 1 (.seq (.reg true [⟨none, .p 17 (.mv (.t 0)), []⟩, ⟨none, .p 18 (.mv (.t 5)), []⟩, ⟨none, .p 19 (.ia (.t 17) (.t 18) 2), [0, 1]⟩, ⟨none, .p 20 (.ld (.t 19) 0 2 true), [2]⟩, ⟨none, .p 21 (.mv (.t 1)), []⟩, ⟨none, .p 22 (.mv (.t 5)), []⟩, ⟨none, .p 23 (.ia (.t 21) (.t 22) 2), [4, 5]⟩, ⟨none, .p 24 (.ld (.t 23) 0 2 true), [6]⟩, ⟨none, .call (some 25) 85 [.rd (.t 20), .rd (.t 24)], [3, 7]⟩, ⟨none, .p 26 (.un .not (.t 25)), [8]⟩] [0, 1, 5, 26]) (.cond (.t 26) (.seq (.reg false [⟨none, .tk 4 (.k (.b false)), []⟩] [4]) .ret) .skip))) (.reg false [⟨none, .p 15 (.mv (.t 5)), []⟩, ⟨none, .p 16 (.bin .add (.t 15) (.k (.i .i64 1))), []⟩, ⟨none, .asg 5 (.t 16), []⟩] [0, 1, 5])))))) (.seq (.reg false [⟨none, .tk 4 (.k (.b true)), []⟩] [4]) .ret))))
theorem code_laws_eqGroupS : ∃ c, Tryd.f73.body = some c ∧ cfit PP 27 c c_laws_eqGroupS = true := by
  refine ⟨_, (rfl : Tryd.f73.body = some _), ?_⟩
  kernel_rfl
theorem t_eqGroupS {G : Glob} (xs ys : List XGroup) : FnD PP G 73 [.val false [.vw none [] (.sl .ow 2 (xs.map XGroup.row))], .val false [.vw none [] (.sl .ow 2 (ys.map XGroup.row))]] [] []
    [.v false [.ow (.lit (.bool (decide (xs = ys))))]] [] [] := by
  refine fn_bd fun hbd => ?_
  have hx : xs.length ≤ 281474976710656 := hbd _ (by simp [hdsA, lenT, Cl.tree])
  clear hbd
  obtain ⟨cc, hb, hcf⟩ := code_laws_eqGroupS
  refine fn_ok (fn := Tryd.f73) (specs := [.t 4]) (by kernel_rfl) hb (by show (27:Nat) ≤ 10000; omega) hcf (by kernel_rfl) (by show (2:Nat) ≤ 27; omega) (by simp) (by simp) rfl rfl (by simp) rfl ?_
  simp only [c_laws_eqGroupS]
  push_cast
  refine cnd_dec (fun hne => ?_) (fun heq => ?_)
  · push_cast
    have : xs ≠ ys := fun e => hne (by rw [e])
    simp [this]
  · have hl : xs.length = ys.length := by omega
    push_cast
    refine cwp_loop (fun i : Nat => ⟨[(0, .val false [.vw none [] (.sl .ow 2 (xs.map XGroup.row))]), (1, .val false [.vw none [] (.sl .ow 2 (ys.map XGroup.row))]), (5, .val false [.ow (.lit (.int .i64 i))])], []⟩)
      (fun i => i ≤ xs.length ∧ xs.take i = ys.take i) (fun i => xs.length - i) 0 rfl rfl ⟨by omega, by simp⟩ ?_
    rintro i ⟨h1, h2⟩
    push_cast
    refine cnd_dec (fun hlt => ?_) (fun hge => ?_)
    · have hi : i < xs.length := by simpa using hlt
      have hi' : i < ys.length := by omega
      push_cast
      refine draw_any ?_
      push_cast [getD_map hi, getD_map hi', XGroup.row]
      refine ⟨⟨by omega, by omega⟩, ⟨by omega, by omega⟩, ?_⟩
      have hc := t_eqGroup (G := G) xs[i] ys[i]
      simp only [XGroup.vw] at hc
      refine call_ok hc ?_
      push_cast
      refine ⟨by kernel_rfl, cnd_dec (fun he => ?_) (fun hne => ?_)⟩
      · push_cast
        have : xs ≠ ys := fun e => he (by subst e; rfl)
        simp [this]
      · push_cast
        refine ⟨i + 1, ?_, ⟨by omega, ?_⟩, by omega⟩
        · rw [wrap64 (by omega) (by omega)]; rfl
        · have he : xs[i] = ys[i] := Classical.not_not.1 hne
          rw [List.take_succ_eq_append_getElem hi, List.take_succ_eq_append_getElem hi', h2, he]
    · have hi : i = xs.length := by simp at hge; omega
      subst hi
      push_cast
      have : xs = ys := by rw [List.take_length, hl, List.take_length] at h2; exact h2
      simp [this]

noncomputable def c_laws_eqTable : ACode := (.seq (.reg false [⟨none, .box 2 (.t 0), []⟩, ⟨none, .box 3 (.t 1), []⟩, ⟨none, .tk 4 (.k (.b false)), []⟩] [2, 3, 10002, 10003]) (.seq (.seq (.reg false [⟨none, .p 5 (.fa (.t 2) 0 0), []⟩, ⟨none, .p 6 (.ld (.t 5) 0 1 false), []⟩, ⟨none, .p 7 (.fa (.t 3) 0 0), []⟩, ⟨none, .p 8 (.ld (.t 7) 0 1 false), []⟩, ⟨none, .call (some 9) 73 [.rd (.t 6), .rd (.t 8)], []⟩, ⟨none, .p 10 (.un .not (.t 9)), []⟩] [10]) (.cond (.t 10) (.seq (.reg false [⟨none, .tk 4 (.k (.b false)), []⟩] [4]) .ret) .skip)) (.seq (.reg false [⟨none, .tk 4 (.k (.b true)), []⟩] [4]) .ret)))
theorem code_laws_eqTable : ∃ c, Tryd.f46.body = some c ∧ cfit PP 11 c c_laws_eqTable = true := by
  refine ⟨_, (rfl : Tryd.f46.body = some _), ?_⟩
  kernel_rfl
theorem t_eqTable {G : Glob} (a b : XTable) : FnD PP G 46 [.val true a.vw, .val true b.vw] [] []
    [.v false [.ow (.lit (.bool (decide (a = b))))]] [] [] := by
  obtain ⟨cc, hb, hcf⟩ := code_laws_eqTable
  refine fn_ok (fn := Tryd.f46) (specs := [.t 4]) (by kernel_rfl) hb (by show (11:Nat) ≤ 10000; omega) hcf (by kernel_rfl) (by show (2:Nat) ≤ 11; omega) (by simp) (by simp) rfl rfl (by simp) rfl ?_
  simp only [c_laws_eqTable]
  simp only [XTable.vw]
  push_cast
  have hc := t_eqGroupS (G := G) a.Groups b.Groups
  refine call_ok hc ?_
  clear hc
  push_cast
  refine cnd_dec (fun hne => ?_) (fun he0 => ?_)
  · push_cast
    have : a ≠ b := fun e => hne (by rw [e])
    simp [this]
  have he0 : a.Groups = b.Groups := Classical.not_not.1 he0
  push_cast
  have : a = b := by
    cases a; cases b
    simp only at he0
    simp only [he0]
  simp [this]

noncomputable def c_laws_eqTableS : ACode := (.seq (.reg false [⟨none, .tk 4 (.k (.b false)), []⟩] [0, 1]) (.seq (.seq (.reg false [⟨none, .p 6 (.mv (.t 0)), []⟩, ⟨none, .p 7 (.len false (.t 6)), []⟩, ⟨none, .p 8 (.mv (.t 1)), []⟩, ⟨none, .p 9 (.len false (.t 8)), []⟩, ⟨none, .p 10 (.bin .neq (.t 7) (.t 9)), []⟩] [0, 1, 10]) (.cond (.t 10) (.seq (.reg false [⟨none, .tk 4 (.k (.b false)), []⟩] [4]) .ret) .skip)) (.seq (.seq (.reg false [⟨none, .asg 5 (.k (.i .i64 0)), []⟩] [0, 1, 5]) (.block 0 (.loop [0, 1, 5] (.seq (.seq (.reg false [⟨none, .p 11 (.mv (.t 5)), []⟩, ⟨none, .p 12 (.mv (.t 0)), []⟩, ⟨none, .p 13 (.len false (.t 12)), []⟩, ⟨none, .p 14 (.bin .lss (.t 11) (.t 13)), []⟩] [0, 1, 5, 14]) (.cond (.t 14) .skip (.exit 0 []))) (.seq (.block 1 (.seq (.reg true [⟨none, .p 17 (.mv (.t 0)), []⟩, ⟨none, .p 18 (.mv (.t 5)), []⟩, ⟨none, .p 19 (.ia (.t 17) (.t 18) 1), [0, 1]⟩, ⟨none, .p 20 (.ld (.t 19) 0 1 true), [2]⟩, ⟨none, .p 21 (.mv (.t 1)), []⟩, ⟨none, .p 22 (.mv (.t 5)), []⟩, ⟨none, .p 23 (.ia (.t 21) (.t 22) 1), [4, 5]⟩, ⟨none, .p 24 (.ld (.t 23) 0 1 true), [6]⟩, ⟨none, .call (some 25) 46 [.rd (.t 20), .rd (.t 24)], [3, 7]⟩, ⟨none, .p 26 (.un .not (.t 25)), [8]⟩] [0, 1, 5, 26]) (.cond (.t 26) (.seq (.reg false [⟨none, .tk 4 (.k (.b false)), []⟩] [4]) .ret) .skip))) (.reg false [⟨none, .p 15 (.mv (.t 5)), []⟩, ⟨none, .p 16 (.bin .add (.t 15) (.k (.i .i64 1))), []⟩, ⟨none, .asg 5 (.t 16), []⟩] [0, 1, 5])))))) (.seq (.reg false [⟨none, .tk 4 (.k (.b true)), []⟩] [4]) .ret))))
theorem code_laws_eqTableS : ∃ c, Tryd.f21.body = some c ∧ cfit PP 27 c c_laws_eqTableS = true := by
  refine ⟨_, (rfl : Tryd.f21.body = some _), ?_⟩
  kernel_rfl
theorem t_eqTableS {G : Glob} (xs ys : List XTable) : FnD PP G 21 [.val false [.vw none [] (.sl .ow 1 (xs.map XTable.row))], .val false [.vw none [] (.sl .ow 1 (ys.map XTable.row))]] [] []
    [.v false [.ow (.lit (.bool (decide (xs = ys))))]] [] [] := by
  refine fn_bd fun hbd => ?_
  have hx : xs.length ≤ 281474976710656 := hbd _ (by simp [hdsA, lenT, Cl.tree])
  clear hbd
  obtain ⟨cc, hb, hcf⟩ := code_laws_eqTableS
  refine fn_ok (fn := Tryd.f21) (specs := [.t 4]) (by kernel_rfl) hb (by show (27:Nat) ≤ 10000; omega) hcf (by kernel_rfl) (by show (2:Nat) ≤ 27; omega) (by simp) (by simp) rfl rfl (by simp) rfl ?_
  simp only [c_laws_eqTableS]
  push_cast
  refine cnd_dec (fun hne => ?_) (fun heq => ?_)
  · push_cast
    have : xs ≠ ys := fun e => hne (by rw [e])
    simp [this]
  · have hl : xs.length = ys.length := by omega
    push_cast
    refine cwp_loop (fun i : Nat => ⟨[(0, .val false [.vw none [] (.sl .ow 1 (xs.map XTable.row))]), (1, .val false [.vw none [] (.sl .ow 1 (ys.map XTable.row))]), (5, .val false [.ow (.lit (.int .i64 i))])], []⟩)
      (fun i => i ≤ xs.length ∧ xs.take i = ys.take i) (fun i => xs.length - i) 0 rfl rfl ⟨by omega, by simp⟩ ?_
    rintro i ⟨h1, h2⟩
    push_cast
    refine cnd_dec (fun hlt => ?_) (fun hge => ?_)
    · have hi : i < xs.length := by simpa using hlt
      have hi' : i < ys.length := by omega
      push_cast
      refine draw_any ?_
      push_cast [getD_map hi, getD_map hi', XTable.row]
      refine ⟨⟨by omega, by omega⟩, ⟨by omega, by omega⟩, ?_⟩
      have hc := t_eqTable (G := G) xs[i] ys[i]
      simp only [XTable.vw] at hc
      refine call_ok hc ?_
      push_cast
      refine ⟨by kernel_rfl, cnd_dec (fun he => ?_) (fun hne => ?_)⟩
      · push_cast
        have : xs ≠ ys := fun e => he (by subst e; rfl)
        simp [this]
      · push_cast
        refine ⟨i + 1, ?_, ⟨by omega, ?_⟩, by omega⟩
        · rw [wrap64 (by omega) (by omega)]; rfl
        · have he : xs[i] = ys[i] := Classical.not_not.1 hne
          rw [List.take_succ_eq_append_getElem hi, List.take_succ_eq_append_getElem hi', h2, he]
    · have hi : i = xs.length := by simp at hge; omega
      subst hi
      push_cast
      have : xs = ys := by rw [List.take_length, hl, List.take_length] at h2; exact h2
      simp [this]

noncomputable def c_laws_eqHall : ACode := (.seq (.reg false [⟨none, .box 2 (.t 0), []⟩, ⟨none, .box 3 (.t 1), []⟩, ⟨none, .tk 4 (.k (.b false)), []⟩] [2, 3, 10002, 10003]) (.seq (.seq (.reg false [⟨none, .p 5 (.fa (.t 2) 0 0), []⟩, ⟨none, .p 6 (.ld (.t 5) 0 4 true), []⟩, ⟨none, .p 7 (.fa (.t 3) 0 0), []⟩, ⟨none, .p 8 (.ld (.t 7) 0 4 true), []⟩, ⟨none, .call (some 9) 19 [.rd (.t 6), .rd (.t 8)], []⟩, ⟨none, .p 10 (.un .not (.t 9)), []⟩] [2, 3, 10, 10002, 10003]) (.cond (.t 10) (.seq (.reg false [⟨none, .tk 4 (.k (.b false)), []⟩] [4]) .ret) .skip)) (.seq (.seq (.reg false [⟨none, .p 11 (.fa (.t 2) 0 4), []⟩, ⟨none, .p 12 (.ld (.t 11) 0 1 false), []⟩, ⟨none, .p 13 (.fa (.t 3) 0 4), []⟩, ⟨none, .p 14 (.ld (.t 13) 0 1 false), []⟩, ⟨none, .call (some 15) 20 [.rd (.t 12), .rd (.t 14)], []⟩, ⟨none, .p 16 (.un .not (.t 15)), []⟩] [2, 3, 16, 10002, 10003]) (.cond (.t 16) (.seq (.reg false [⟨none, .tk 4 (.k (.b false)), []⟩] [4]) .ret) .skip)) (.seq (.seq (.reg false [⟨none, .p 17 (.fa (.t 2) 0 5), []⟩, ⟨none, .p 18 (.ld (.t 17) 0 1 false), []⟩, ⟨none, .p 19 (.fa (.t 3) 0 5), []⟩, ⟨none, .p 20 (.ld (.t 19) 0 1 false), []⟩, ⟨none, .call (some 21) 21 [.rd (.t 18), .rd (.t 20)], []⟩, ⟨none, .p 22 (.un .not (.t 21)), []⟩] [2, 3, 22, 10002, 10003]) (.cond (.t 22) (.seq (.reg false [⟨none, .tk 4 (.k (.b false)), []⟩] [4]) .ret) .skip)) (.seq (.seq (.reg false [⟨none, .p 23 (.fa (.t 2) 0 6), []⟩, ⟨none, .p 24 (.ld (.t 23) 0 1 false), []⟩, ⟨none, .p 25 (.fa (.t 3) 0 6), []⟩, ⟨none, .p 26 (.ld (.t 25) 0 1 false), []⟩, ⟨none, .call (some 27) 22 [.rd (.t 24), .rd (.t 26)], []⟩, ⟨none, .p 28 (.un .not (.t 27)), []⟩] [28]) (.cond (.t 28) (.seq (.reg false [⟨none, .tk 4 (.k (.b false)), []⟩] [4]) .ret) .skip)) (.seq (.reg false [⟨none, .tk 4 (.k (.b true)), []⟩] [4]) .ret))))))
theorem code_laws_eqHall : ∃ c, Tryd.f8.body = some c ∧ cfit PP 29 c c_laws_eqHall = true := by
  refine ⟨_, (rfl : Tryd.f8.body = some _), ?_⟩
  kernel_rfl
theorem t_eqHall {G : Glob} (a b : XHall) : FnD PP G 8 [.val true a.vw, .val true b.vw] [] []
    [.v false [.ow (.lit (.bool (decide (a = b))))]] [] [] := by
  obtain ⟨cc, hb, hcf⟩ := code_laws_eqHall
  refine fn_ok (fn := Tryd.f8) (specs := [.t 4]) (by kernel_rfl) hb (by show (29:Nat) ≤ 10000; omega) hcf (by kernel_rfl) (by show (2:Nat) ≤ 29; omega) (by simp) (by simp) rfl rfl (by simp) rfl ?_
  simp only [c_laws_eqHall]
  simp only [XHall.vw]
  push_cast
  have hc := t_eqWorld (G := G) a.World b.World
  simp only [XWorld.vw] at hc
  refine call_ok hc ?_
  clear hc
  push_cast
  refine cnd_dec (fun hne => ?_) (fun he0 => ?_)
  · push_cast
    have : a ≠ b := fun e => hne (by rw [e])
    simp [this]
  have he0 : a.World = b.World := Classical.not_not.1 he0
  push_cast
  have hc := t_eqCallerS (G := G) a.Callers b.Callers
  refine call_ok hc ?_
  clear hc
  push_cast
  refine cnd_dec (fun hne => ?_) (fun he1 => ?_)
  · push_cast
    have : a ≠ b := fun e => hne (by rw [e])
    simp [this]
  have he1 : a.Callers = b.Callers := Classical.not_not.1 he1
  push_cast
  have hc := t_eqTableS (G := G) a.Tables b.Tables
  refine call_ok hc ?_
  clear hc
  push_cast
  refine cnd_dec (fun hne => ?_) (fun he2 => ?_)
  · push_cast
    have : a ≠ b := fun e => hne (by rw [e])
    simp [this]
  have he2 : a.Tables = b.Tables := Classical.not_not.1 he2
  push_cast
  have hc := t_eqIntS (G := G) a.Seen b.Seen
  refine call_ok hc ?_
  clear hc
  push_cast
  refine cnd_dec (fun hne => ?_) (fun he3 => ?_)
  · push_cast
    have : a ≠ b := fun e => hne (by rw [e])
    simp [this]
  have he3 : a.Seen = b.Seen := Classical.not_not.1 he3
  push_cast
  have : a = b := by
    cases a; cases b
    simp only at he0 he1 he2 he3
    simp only [he0, he1, he2, he3]
  simp [this]

end Go.Eng
