/- Rings that are right, and copies of them: the reference. -/
import Derived.Test.YtpgdmpihbfmnfaaDoorHA
import Derived.Test.YtpgdmpihbfmnfaaDoorHS
import Derived.Test.YtpgdmpihbfmnfaaDoorHB
import Derived.Test.YtpgdmpihbfmnfaaDoorHD
set_option linter.unusedSimpArgs false
set_option linter.unusedVariables false
set_option maxRecDepth 100000
namespace Go.Eng
open Go.Proofs
noncomputable def c_spec_l01In : ACode := (.seq (.reg false [⟨none, .tk 6 (.k (.b false)), []⟩] [0, 1, 2]) (.seq (.reg false [⟨none, .p 7 (.mv (.t 0)), []⟩, ⟨none, .p 8 (.mv (.t 1)), []⟩, ⟨none, .p 9 (.bin .geq (.t 7) (.t 8)), []⟩, ⟨none, .p 10 (.mv (.t 9)), []⟩, ⟨some (10, true), .p 11 (.mv (.t 0)), []⟩, ⟨some (10, true), .p 12 (.mv (.t 2)), []⟩, ⟨some (10, true), .p 13 (.bin .leq (.t 11) (.t 12)), []⟩, ⟨none, .p 14 (.pick (.t 10) (.t 13) (.k (.b false))), []⟩, ⟨none, .tk 6 (.t 14), []⟩] [6]) .ret))
theorem code_spec_l01In : ∃ c, Tryd.f60.body = some c ∧ cfit PP 15 c c_spec_l01In = true := by
  refine ⟨_, (rfl : Tryd.f60.body = some _), ?_⟩
  kernel_rfl
noncomputable def c_impl_inRange : ACode := (.seq (.reg false [⟨none, .tk 6 (.k (.b false)), []⟩] [0, 1, 2]) (.seq (.reg false [⟨none, .p 7 (.mv (.t 0)), []⟩, ⟨none, .p 8 (.mv (.t 1)), []⟩, ⟨none, .p 9 (.bin .geq (.t 7) (.t 8)), []⟩, ⟨none, .p 10 (.mv (.t 9)), []⟩, ⟨some (10, true), .p 11 (.mv (.t 0)), []⟩, ⟨some (10, true), .p 12 (.mv (.t 2)), []⟩, ⟨some (10, true), .p 13 (.bin .leq (.t 11) (.t 12)), []⟩, ⟨none, .p 14 (.pick (.t 10) (.t 13) (.k (.b false))), []⟩, ⟨none, .tk 6 (.t 14), []⟩] [6]) .ret))
theorem code_impl_inRange : ∃ c, Tryd.f63.body = some c ∧ cfit PP 15 c c_impl_inRange = true := by
  refine ⟨_, (rfl : Tryd.f63.body = some _), ?_⟩
  kernel_rfl
noncomputable def c_impl_isDaemon : ACode := (.seq (.reg false [⟨none, .tk 2 (.k (.b false)), []⟩] [0]) (.seq (.reg false [⟨none, .p 3 (.mv (.t 0)), []⟩, ⟨none, .call (some 4) 63 [.rd (.t 3), .rd (.k (.i .i64 1)), .rd (.k (.i .i64 5))], []⟩, ⟨none, .tk 2 (.t 4), []⟩] [2]) .ret))
theorem code_impl_isDaemon : ∃ c, Tryd.f65.body = some c ∧ cfit PP 5 c c_impl_isDaemon = true := by
  refine ⟨_, (rfl : Tryd.f65.body = some _), ?_⟩
  kernel_rfl
theorem t_l01In {G : Glob} (x l m : Int) : FnD PP G 60 [.val false [.ow (.lit (.int .i64 x))], .val false [.ow (.lit (.int .i64 l))], .val false [.ow (.lit (.int .i64 m))]] [] []
    [.v false [.ow (.lit (.bool (decide (l ≤ x ∧ x ≤ m))))]] [] [] := by
  obtain ⟨cc, hb, hcf⟩ := code_spec_l01In
  refine fn_ok (fn := Tryd.f60) (specs := [.t 6]) (by kernel_rfl) hb (by show (15:Nat) ≤ 10000; omega) hcf (by kernel_rfl) (by show (3:Nat) ≤ 15; omega) (by simp) (by simp) rfl rfl (by simp) rfl ?_
  simp only [c_spec_l01In]
  by_cases h1 : l ≤ x
  · push_cast [h1]
  · push_cast [h1, false_and]
theorem t_inRange {G : Glob} (x l m : Int) : FnD PP G 63 [.val false [.ow (.lit (.int .i64 x))], .val false [.ow (.lit (.int .i64 l))], .val false [.ow (.lit (.int .i64 m))]] [] []
    [.v false [.ow (.lit (.bool (decide (l ≤ x ∧ x ≤ m))))]] [] [] := by
  obtain ⟨cc, hb, hcf⟩ := code_impl_inRange
  refine fn_ok (fn := Tryd.f63) (specs := [.t 6]) (by kernel_rfl) hb (by show (15:Nat) ≤ 10000; omega) hcf (by kernel_rfl) (by show (3:Nat) ≤ 15; omega) (by simp) (by simp) rfl rfl (by simp) rfl ?_
  simp only [c_impl_inRange]
  by_cases h1 : l ≤ x
  · push_cast [h1]
  · push_cast [h1, false_and]
theorem t_isDaemon {G : Glob} (x : Int) : FnD PP G 65 [.val false [.ow (.lit (.int .i64 x))]] [] []
    [.v false [.ow (.lit (.bool (decide (1 ≤ x ∧ x ≤ 5))))]] [] [] := by
  obtain ⟨cc, hb, hcf⟩ := code_impl_isDaemon
  refine fn_ok (fn := Tryd.f65) (specs := [.t 2]) (by kernel_rfl) hb (by show (5:Nat) ≤ 10000; omega) hcf (by kernel_rfl) (by show (1:Nat) ≤ 5; omega) (by simp) (by simp) rfl rfl (by simp) rfl ?_
  simp only [c_impl_isDaemon]
  push_cast
  refine call_ok (t_inRange x 1 5) ?_
  push_cast
def okAt (l : List Int) (i : Nat) : Bool := decide (1 ≤ l.getD i 0 ∧ l.getD i 0 ≤ 5) && (i == 0 || decide (l.getD (i - 1) 0 < l.getD i 0))
def ringOkF (r : XRing) : Bool := decide (1 ≤ r.Id ∧ r.Id ≤ 9) && (decide (1 ≤ r.Members.length ∧ r.Members.length ≤ 5) && (List.range r.Members.length).all (okAt r.Members))
theorem okAt_no {l : List Int} {i : Nat} (hi : i < l.length) (h : ¬ (1 ≤ l[i] ∧ l[i] ≤ 5)) : okAt l i = false := by
  have hg : l.getD i 0 = l[i] := by simp [List.getD, hi]
  simp only [okAt, hg, h]; rfl
theorem okAt_no2 {l : List Int} {i : Nat} (hi : i < l.length) (h0 : 0 < i) (h : l[i - 1] ≥ l[i]) : okAt l i = false := by
  have hg : l.getD i 0 = l[i] := by simp [List.getD, hi]
  have hg2 : l.getD (i - 1) 0 = l[i - 1] := by
    have : i - 1 < l.length := by omega
    simp [List.getD, this]
  have h1 : (i == 0) = false := by simp; omega
  have h2 : ¬ l[i - 1] < l[i] := by omega
  simp only [okAt, hg, hg2, h1, h2]; simp
theorem okAt_yes {l : List Int} {i : Nat} (hi : i < l.length) (h : 1 ≤ l[i] ∧ l[i] ≤ 5) (h2 : 0 < i → l[i - 1]'(by omega) < l[i]) : okAt l i = true := by
  have hg : l.getD i 0 = l[i] := by simp [List.getD, hi]
  simp only [okAt, hg, h, and_self, decide_true, Bool.true_and]
  by_cases h0 : 0 < i
  · have hg2 : l.getD (i - 1) 0 = l[i - 1] := by
      have : i - 1 < l.length := by omega
      simp [List.getD, this]
    rw [hg2, decide_eq_true (h2 h0), Bool.or_true]
  · have : i = 0 := by omega
    simp [this]
theorem ringOk_no {r : XRing} {i : Nat} (hi : i < r.Members.length) (h : okAt r.Members i = false) : ringOkF r = false := by
  have : (List.range r.Members.length).all (okAt r.Members) = false := by
    rw [List.all_eq_false]
    exact ⟨i, List.mem_range.2 hi, by simp [h]⟩
  simp [ringOkF, this]
theorem ringOk_yes {r : XRing} (h1 : 1 ≤ r.Id ∧ r.Id ≤ 9) (h2 : 1 ≤ r.Members.length ∧ r.Members.length ≤ 5) (h : ∀ j, j < r.Members.length → okAt r.Members j = true) : ringOkF r = true := by
  have : (List.range r.Members.length).all (okAt r.Members) = true := by
    rw [List.all_eq_true]
    exact fun j hj => h j (List.mem_range.1 hj)
  simp [ringOkF, this, h1, h2]
noncomputable def c_spec_RingOk : ACode := (.seq (.reg false [⟨none, .box 1 (.t 0), []⟩, ⟨none, .tk 2 (.k (.b false)), []⟩] [1, 10001]) (.seq (.seq (.reg false [⟨none, .p 4 (.fa (.t 1) 0 0), []⟩, ⟨none, .p 5 (.ld (.t 4) 0 1 false), []⟩, ⟨none, .call (some 6) 60 [.rd (.t 5), .rd (.k (.i .i64 1)), .rd (.k (.i .i64 9))], []⟩, ⟨none, .p 7 (.un .not (.t 6)), []⟩, ⟨none, .p 8 (.mv (.t 7)), []⟩, ⟨some (8, false), .p 9 (.fa (.t 1) 0 1), []⟩, ⟨some (8, false), .p 10 (.ld (.t 9) 0 1 false), []⟩, ⟨some (8, false), .p 11 (.len false (.t 10)), []⟩, ⟨some (8, false), .call (some 12) 60 [.rd (.t 11), .rd (.k (.i .i64 1)), .rd (.k (.i .i64 5))], []⟩, ⟨some (8, false), .p 13 (.un .not (.t 12)), []⟩, ⟨none, .p 14 (.pick (.t 8) (.k (.b true)) (.t 13)), []⟩] [1, 14, 10001]) (.cond (.t 14) (.seq (.reg false [⟨none, .tk 2 (.k (.b false)), []⟩] [2]) .ret) .skip)) (.seq (.seq (.reg false [⟨none, .asg 3 (.k (.i .i64 0)), []⟩] [1, 3, 10001]) (.block 0 (.loop [1, 3, 10001] (.seq (.seq (.reg false [⟨none, .p 15 (.mv (.t 3)), []⟩, ⟨none, .p 16 (.fa (.t 1) 0 1), []⟩, ⟨none, .p 17 (.ld (.t 16) 0 1 false), []⟩, ⟨none, .p 18 (.len false (.t 17)), []⟩, ⟨none, .p 19 (.bin .lss (.t 15) (.t 18)), []⟩] [1, 3, 19, 10001]) (.cond (.t 19) .skip (.exit 0 []))) (.seq (.block 1 (.seq (.reg true [⟨none, .p 22 (.fa (.t 1) 0 1), []⟩, ⟨none, .p 23 (.ld (.t 22) 0 1 false), [0]⟩, ⟨none, .p 24 (.mv (.t 3)), []⟩, ⟨none, .p 25 (.ia (.t 23) (.t 24) 1), [1, 2]⟩, ⟨none, .p 26 (.ld (.t 25) 0 1 false), [3]⟩, ⟨none, .call (some 27) 60 [.rd (.t 26), .rd (.k (.i .i64 1)), .rd (.k (.i .i64 5))], [4]⟩, ⟨none, .p 28 (.un .not (.t 27)), [5]⟩, ⟨none, .p 29 (.mv (.t 28)), [6, 5]⟩, ⟨some (29, false), .p 30 (.mv (.t 3)), [7]⟩, ⟨some (29, false), .p 31 (.bin .gtr (.t 30) (.k (.i .i64 0))), [8, 7]⟩, ⟨some (29, false), .p 32 (.mv (.t 31)), [9, 7, 7]⟩, ⟨some (32, true), .p 33 (.fa (.t 1) 0 1), [10]⟩, ⟨some (32, true), .p 34 (.ld (.t 33) 0 1 false), [11, 10]⟩, ⟨some (32, true), .p 35 (.mv (.t 3)), [10]⟩, ⟨some (32, true), .p 36 (.bin .sub (.t 35) (.k (.i .i64 1))), [13, 10]⟩, ⟨some (32, true), .p 37 (.ia (.t 34) (.t 36) 1), [12, 14, 10]⟩, ⟨some (32, true), .p 38 (.ld (.t 37) 0 1 false), [15, 10]⟩, ⟨some (32, true), .p 39 (.fa (.t 1) 0 1), [10]⟩, ⟨some (32, true), .p 40 (.ld (.t 39) 0 1 false), [17, 10]⟩, ⟨some (32, true), .p 41 (.mv (.t 3)), [10]⟩, ⟨some (32, true), .p 42 (.ia (.t 40) (.t 41) 1), [18, 19, 10]⟩, ⟨some (32, true), .p 43 (.ld (.t 42) 0 1 false), [20, 10]⟩, ⟨some (32, true), .p 44 (.bin .geq (.t 38) (.t 43)), [16, 21, 10]⟩, ⟨some (29, false), .p 45 (.pick (.t 32) (.t 44) (.k (.b false))), [10, 22, 7]⟩, ⟨none, .p 46 (.pick (.t 29) (.k (.b true)) (.t 45)), [7, 23]⟩] [1, 3, 46, 10001]) (.cond (.t 46) (.seq (.reg false [⟨none, .tk 2 (.k (.b false)), []⟩] [2]) .ret) .skip))) (.reg false [⟨none, .p 20 (.mv (.t 3)), []⟩, ⟨none, .p 21 (.bin .add (.t 20) (.k (.i .i64 1))), []⟩, ⟨none, .asg 3 (.t 21), []⟩] [1, 3, 10001])))))) (.seq (.reg false [⟨none, .tk 2 (.k (.b true)), []⟩] [2]) .ret))))
theorem code_spec_RingOk : ∃ c, Tryd.f59.body = some c ∧ cfit PP 47 c c_spec_RingOk = true := by
  refine ⟨_, (rfl : Tryd.f59.body = some _), ?_⟩
  kernel_rfl
theorem t_specRingOk {G : Glob} (r : XRing) : FnD PP G 59 [.val true r.vw] [] [] [.v false [.ow (.lit (.bool (ringOkF r)))]] [] [] := by
  refine fn_bd fun hbd => ?_
  have hx : r.Members.length ≤ 281474976710656 := hbd _ (by simp [hdsA, lenT, Cl.tree, XRing.vw])
  clear hbd
  obtain ⟨cc, hb, hcf⟩ := code_spec_RingOk
  refine fn_ok (fn := Tryd.f59) (specs := [.t 2]) (by kernel_rfl) hb (by show (47:Nat) ≤ 10000; omega) hcf (by kernel_rfl) (by show (1:Nat) ≤ 47; omega) (by simp) (by simp) rfl rfl (by simp) rfl ?_
  simp only [c_spec_RingOk]
  simp only [XRing.vw]
  push_cast
  refine call_ok (t_l01In r.Id 1 9) ?_
  by_cases h1 : 1 ≤ r.Id ∧ r.Id ≤ 9
  · push_cast [h1]
    refine call_ok (t_l01In r.Members.length 1 5) ?_
    by_cases h2 : 1 ≤ (r.Members.length : Int) ∧ (r.Members.length : Int) ≤ 5
    · push_cast [h2]
      refine cwp_loop (fun i : Nat => ⟨[(1, .pr 10001 0), (3, .val false [.ow (.lit (.int .i64 i))]), (10001, .mem [.ow (.lit (.int .i64 r.Id)), .vw none [] (.sl .ow 1 (r.Members.map intR))])], []⟩)
        (fun i => i ≤ r.Members.length ∧ ∀ j, j < i → okAt r.Members j = true) (fun i => r.Members.length - i) 0 rfl rfl ⟨by omega, fun j h => by omega⟩ ?_
      rintro i ⟨hle, hall⟩
      push_cast
      refine cnd_dec (fun hlt => ?_) (fun hge => ?_)
      · have hi : i < r.Members.length := by omega
        have hg : r.Members.getD i 0 = r.Members[i] := by simp [List.getD, hi]
        push_cast
        refine draw_any ?_
        push_cast [getD_map hi, intR]
        repeat (first | refine And.intro (by omega) ?_ | refine And.intro ⟨by omega, by omega⟩ ?_ | refine And.intro ⟨by omega, by omega, by omega⟩ ?_)
        refine call_ok (t_l01In r.Members[i] 1 5) ?_
        by_cases h3 : 1 ≤ r.Members[i] ∧ r.Members[i] ≤ 5
        · by_cases h4 : (0 : Int) < i
          · have hw : IntKind.i64.wrap ((i : Int) - 1) = ((i - 1 : Nat) : Int) := by rw [wrap64 (by omega) (by omega)]; omega
            have hi2 : i - 1 < r.Members.length := by omega
            push_cast [h3, h4, hw, getD_map hi, getD_map hi2, intR]
            repeat (first | refine And.intro (by omega) ?_ | refine And.intro ⟨by omega, by omega⟩ ?_ | refine And.intro ⟨by omega, by omega, by omega⟩ ?_)
            by_cases h5 : r.Members[i - 1] ≥ r.Members[i]
            · push_cast [h5]
              refine ⟨by kernel_rfl, ?_⟩
              push_cast
              rw [ringOk_no hi (okAt_no2 hi (by omega) h5)]
            · push_cast [h5]
              refine ⟨by kernel_rfl, ?_⟩
              push_cast
              refine ⟨i + 1, ?_, ⟨by omega, fun j hj => ?_⟩, by omega⟩
              · rw [wrap64 (by omega) (by omega)]; rfl
              · rcases Nat.lt_or_ge j i with h | h
                · exact hall j h
                · obtain rfl : j = i := by omega
                  exact okAt_yes hi h3 fun _ => by omega
          · push_cast [h3, h4]
            refine ⟨by kernel_rfl, ?_⟩
            push_cast
            refine ⟨i + 1, ?_, ⟨by omega, fun j hj => ?_⟩, by omega⟩
            · rw [wrap64 (by omega) (by omega)]; rfl
            · rcases Nat.lt_or_ge j i with h | h
              · exact hall j h
              · obtain rfl : j = i := by omega
                exact okAt_yes hi h3 fun _ => by omega
        · push_cast [h3]
          refine ⟨by kernel_rfl, ?_⟩
          push_cast
          rw [ringOk_no hi (okAt_no hi h3)]
      · push_cast
        rw [ringOk_yes h1 (by omega) fun j hj => hall j (by omega)]
    · push_cast [h2]
      have h2' : ¬ (1 ≤ r.Members.length ∧ r.Members.length ≤ 5) := by omega
      simp [ringOkF, h2']
  · push_cast [h1]
    simp [ringOkF, h1]
noncomputable def c_impl_RingOk : ACode := (.seq (.reg false [⟨none, .box 1 (.t 0), []⟩, ⟨none, .tk 2 (.k (.b false)), []⟩] [1, 10001]) (.seq (.seq (.reg false [⟨none, .p 5 (.fa (.t 1) 0 0), []⟩, ⟨none, .p 6 (.ld (.t 5) 0 1 false), []⟩, ⟨none, .call (some 7) 63 [.rd (.t 6), .rd (.k (.i .i64 1)), .rd (.k (.i .i64 9))], []⟩, ⟨none, .p 8 (.un .not (.t 7)), []⟩, ⟨none, .p 9 (.mv (.t 8)), []⟩, ⟨some (9, false), .p 10 (.fa (.t 1) 0 1), []⟩, ⟨some (9, false), .p 11 (.ld (.t 10) 0 1 false), []⟩, ⟨some (9, false), .p 12 (.len false (.t 11)), []⟩, ⟨some (9, false), .call (some 13) 63 [.rd (.t 12), .rd (.k (.i .i64 1)), .rd (.k (.i .i64 5))], []⟩, ⟨some (9, false), .p 14 (.un .not (.t 13)), []⟩, ⟨none, .p 15 (.pick (.t 9) (.k (.b true)) (.t 14)), []⟩] [1, 15, 10001]) (.cond (.t 15) (.seq (.reg false [⟨none, .tk 2 (.k (.b false)), []⟩] [2]) .ret) .skip)) (.seq (.seq (.reg false [⟨none, .p 16 (.fa (.t 1) 0 1), []⟩, ⟨none, .p 17 (.ld (.t 16) 0 1 false), []⟩, ⟨none, .p 18 (.len false (.t 17)), []⟩, ⟨none, .p 19 (.mv (.k (.i .i64 0))), []⟩] [1, 17, 18, 19, 10001]) (.block 0 (.loop [1, 17, 18, 19, 10001] (.seq (.reg false [⟨none, .p 20 (.bin .lss (.t 19) (.t 18)), []⟩] [1, 17, 18, 19, 20, 10001]) (.seq (.cond (.t 20) .skip (.exit 0 [])) (.seq (.block 1 (.seq (.reg false [⟨none, .p 21 (.mv (.t 19)), []⟩, ⟨none, .p 22 (.ia (.t 17) (.t 19) 1), []⟩, ⟨none, .p 23 (.ld (.t 22) 0 1 false), []⟩, ⟨none, .asg 3 (.t 21), []⟩, ⟨none, .asg 4 (.t 23), []⟩] [1, 3, 4, 17, 18, 19, 10001]) (.seq (.reg false [⟨none, .p 24 (.mv (.t 4)), []⟩, ⟨none, .call (some 25) 65 [.rd (.t 24)], []⟩, ⟨none, .p 26 (.un .not (.t 25)), []⟩, ⟨none, .p 27 (.mv (.t 26)), []⟩, ⟨some (27, false), .p 28 (.mv (.t 3)), []⟩, ⟨some (27, false), .p 29 (.bin .gtr (.t 28) (.k (.i .i64 0))), []⟩, ⟨some (27, false), .p 30 (.mv (.t 29)), []⟩, ⟨some (30, true), .p 31 (.mv (.t 4)), []⟩, ⟨some (30, true), .p 32 (.fa (.t 1) 0 1), []⟩, ⟨some (30, true), .p 33 (.ld (.t 32) 0 1 false), []⟩, ⟨some (30, true), .p 34 (.mv (.t 3)), []⟩, ⟨some (30, true), .p 35 (.bin .sub (.t 34) (.k (.i .i64 1))), []⟩, ⟨some (30, true), .p 36 (.ia (.t 33) (.t 35) 1), []⟩, ⟨some (30, true), .p 37 (.ld (.t 36) 0 1 false), []⟩, ⟨some (30, true), .p 38 (.bin .leq (.t 31) (.t 37)), []⟩, ⟨some (27, false), .p 39 (.pick (.t 30) (.t 38) (.k (.b false))), []⟩, ⟨none, .p 40 (.pick (.t 27) (.k (.b true)) (.t 39)), []⟩] [1, 17, 18, 19, 40, 10001]) (.cond (.t 40) (.seq (.reg false [⟨none, .tk 2 (.k (.b false)), []⟩] [2]) .ret) .skip)))) (.reg false [⟨none, .p 41 (.bin .add (.t 19) (.k (.i .i64 1))), []⟩, ⟨none, .p 19 (.mv (.t 41)), []⟩] [1, 17, 18, 19, 10001]))))))) (.seq (.reg false [⟨none, .tk 2 (.k (.b true)), []⟩] [2]) .ret))))
theorem code_impl_RingOk : ∃ c, Tryd.f62.body = some c ∧ cfit PP 42 c c_impl_RingOk = true := by
  refine ⟨_, (rfl : Tryd.f62.body = some _), ?_⟩
  kernel_rfl
theorem t_implRingOk {G : Glob} (r : XRing) : FnD PP G 62 [.val true r.vw] [] [] [.v false [.ow (.lit (.bool (ringOkF r)))]] [] [] := by
  refine fn_bd fun hbd => ?_
  have hx : r.Members.length ≤ 281474976710656 := hbd _ (by simp [hdsA, lenT, Cl.tree, XRing.vw])
  clear hbd
  obtain ⟨cc, hb, hcf⟩ := code_impl_RingOk
  refine fn_ok (fn := Tryd.f62) (specs := [.t 2]) (by kernel_rfl) hb (by show (42:Nat) ≤ 10000; omega) hcf (by kernel_rfl) (by show (1:Nat) ≤ 42; omega) (by simp) (by simp) rfl rfl (by simp) rfl ?_
  simp only [c_impl_RingOk]
  simp only [XRing.vw]
  push_cast
  refine call_ok (t_inRange r.Id 1 9) ?_
  by_cases h1 : 1 ≤ r.Id ∧ r.Id ≤ 9
  · push_cast [h1]
    refine call_ok (t_inRange r.Members.length 1 5) ?_
    by_cases h2 : 1 ≤ (r.Members.length : Int) ∧ (r.Members.length : Int) ≤ 5
    · push_cast [h2]
      refine cwp_loop (fun i : Nat => ⟨[(1, .pr 10001 0), (17, .val false [.vw none [] (.sl .ow 1 (r.Members.map intR))]), (18, .val false [.ow (.lit (.int .i64 r.Members.length))]), (19, .val false [.ow (.lit (.int .i64 i))]), (10001, .mem [.ow (.lit (.int .i64 r.Id)), .vw none [] (.sl .ow 1 (r.Members.map intR))])], []⟩)
        (fun i => i ≤ r.Members.length ∧ ∀ j, j < i → okAt r.Members j = true) (fun i => r.Members.length - i) 0 rfl rfl ⟨by omega, fun j h => by omega⟩ ?_
      rintro i ⟨hle, hall⟩
      push_cast
      refine cnd_dec (fun hlt => ?_) (fun hge => ?_)
      · have hi : i < r.Members.length := by omega
        push_cast [getD_map hi, intR]
        repeat (first | refine And.intro (by omega) ?_ | refine And.intro ⟨by omega, by omega⟩ ?_ | refine And.intro ⟨by omega, by omega, by omega⟩ ?_)
        refine call_ok (t_isDaemon r.Members[i]) ?_
        by_cases h3 : 1 ≤ r.Members[i] ∧ r.Members[i] ≤ 5
        · by_cases h4 : (0 : Int) < i
          · have hw : IntKind.i64.wrap ((i : Int) - 1) = ((i - 1 : Nat) : Int) := by rw [wrap64 (by omega) (by omega)]; omega
            have hi2 : i - 1 < r.Members.length := by omega
            push_cast [h3, h4, hw, getD_map hi2, intR]
            repeat (first | refine And.intro (by omega) ?_ | refine And.intro ⟨by omega, by omega⟩ ?_ | refine And.intro ⟨by omega, by omega, by omega⟩ ?_)
            by_cases h5 : r.Members[i] ≤ r.Members[i - 1]
            · push_cast [h5]
              rw [ringOk_no hi (okAt_no2 hi (by omega) h5)]
            · push_cast [h5]
              refine ⟨i + 1, ?_, ⟨by omega, fun j hj => ?_⟩, by omega⟩
              · rw [wrap64 (by omega) (by omega)]; rfl
              · rcases Nat.lt_or_ge j i with h | h
                · exact hall j h
                · obtain rfl : j = i := by omega
                  exact okAt_yes hi h3 fun _ => by omega
          · push_cast [h3, h4]
            refine ⟨i + 1, ?_, ⟨by omega, fun j hj => ?_⟩, by omega⟩
            · rw [wrap64 (by omega) (by omega)]; rfl
            · rcases Nat.lt_or_ge j i with h | h
              · exact hall j h
              · obtain rfl : j = i := by omega
                exact okAt_yes hi h3 fun _ => by omega
        · push_cast [h3]
          rw [ringOk_no hi (okAt_no hi h3)]
      · push_cast
        rw [ringOk_yes h1 (by omega) fun j hj => hall j (by omega)]
    · push_cast [h2]
      have h2' : ¬ (1 ≤ r.Members.length ∧ r.Members.length ≤ 5) := by omega
      simp [ringOkF, h2']
  · push_cast [h1]
    simp [ringOkF, h1]
end Go.Eng

set_option maxRecDepth 100000
namespace Go.Eng
open Go.Proofs
def rAt (rs : List XRing) (i : Nat) : Bool := match rs[i]? with | some r => ringOkF r && decide (r.Id = (i : Int) + 1) | none => true
def ringsOkF (rs : List XRing) : Bool := (List.range rs.length).all (rAt rs) && decide (1 ≤ rs.length ∧ rs.length ≤ 9)
theorem rings_no {rs : List XRing} {i : Nat} (hi : i < rs.length) (h : rAt rs i = false) : ringsOkF rs = false := by
  have : (List.range rs.length).all (rAt rs) = false := by
    rw [List.all_eq_false]
    exact ⟨i, List.mem_range.2 hi, by simp [h]⟩
  simp [ringsOkF, this]
theorem rings_yes {rs : List XRing} (h : ∀ j, j < rs.length → rAt rs j = true) : ringsOkF rs = decide (1 ≤ rs.length ∧ rs.length ≤ 9) := by
  have : (List.range rs.length).all (rAt rs) = true := by
    rw [List.all_eq_true]
    exact fun j hj => h j (List.mem_range.1 hj)
  simp [ringsOkF, this]
theorem rAt_eq {rs : List XRing} {i : Nat} (hi : i < rs.length) : rAt rs i = (ringOkF rs[i] && decide (rs[i].Id = (i : Int) + 1)) := by
  simp [rAt, List.getElem?_eq_getElem hi]
noncomputable def c_spec_RingsOk : ACode := (.seq (.reg false [⟨none, .tk 2 (.k (.b false)), []⟩] [0]) (.seq (.seq (.reg false [⟨none, .asg 3 (.k (.i .i64 0)), []⟩] [0, 3]) (.block 0 (.loop [0, 3] (.seq (.seq (.reg false [⟨none, .p 4 (.mv (.t 3)), []⟩, ⟨none, .p 5 (.mv (.t 0)), []⟩, ⟨none, .p 6 (.len false (.t 5)), []⟩, ⟨none, .p 7 (.bin .lss (.t 4) (.t 6)), []⟩] [0, 3, 7]) (.cond (.t 7) .skip (.exit 0 [0]))) (.seq (.block 1 (.seq (.reg false [⟨none, .p 10 (.mv (.t 0)), []⟩, ⟨none, .p 11 (.mv (.t 3)), []⟩, ⟨none, .p 12 (.ia (.t 10) (.t 11) 2), []⟩, ⟨none, .p 13 (.ld (.t 12) 0 2 true), []⟩, ⟨none, .call (some 14) 59 [.rd (.t 13)], []⟩, ⟨none, .p 15 (.un .not (.t 14)), []⟩, ⟨none, .p 16 (.mv (.t 15)), []⟩, ⟨some (16, false), .p 17 (.mv (.t 0)), []⟩, ⟨some (16, false), .p 18 (.mv (.t 3)), []⟩, ⟨some (16, false), .p 19 (.ia (.t 17) (.t 18) 2), []⟩, ⟨some (16, false), .p 20 (.fa (.t 19) 0 0), []⟩, ⟨some (16, false), .p 21 (.ld (.t 20) 0 1 false), []⟩, ⟨some (16, false), .p 22 (.mv (.t 3)), []⟩, ⟨some (16, false), .p 23 (.bin .add (.t 22) (.k (.i .i64 1))), []⟩, ⟨some (16, false), .p 24 (.bin .neq (.t 21) (.t 23)), []⟩, ⟨none, .p 25 (.pick (.t 16) (.k (.b true)) (.t 24)), []⟩] [0, 3, 25]) (.cond (.t 25) (.seq (.reg false [⟨none, .tk 2 (.k (.b false)), []⟩] [2]) .ret) .skip))) (.reg false [⟨none, .p 8 (.mv (.t 3)), []⟩, ⟨none, .p 9 (.bin .add (.t 8) (.k (.i .i64 1))), []⟩, ⟨none, .asg 3 (.t 9), []⟩] [0, 3])))))) (.seq (.reg false [⟨none, .p 26 (.mv (.t 0)), []⟩, ⟨none, .p 27 (.len false (.t 26)), []⟩, ⟨none, .call (some 28) 60 [.rd (.t 27), .rd (.k (.i .i64 1)), .rd (.k (.i .i64 9))], []⟩, ⟨none, .tk 2 (.t 28), []⟩] [2]) .ret)))
theorem code_spec_RingsOk : ∃ c, Tryd.f33.body = some c ∧ cfit PP 29 c c_spec_RingsOk = true := by
  refine ⟨_, (rfl : Tryd.f33.body = some _), ?_⟩
  kernel_rfl
theorem t_specRingsOk {G : Glob} (rs : List XRing) : FnD PP G 33 [.val false [.vw none [] (.sl .ow 2 (rs.map XRing.row))]] [] [] [.v false [.ow (.lit (.bool (ringsOkF rs)))]] [] [] := by
  refine fn_bd fun hbd => ?_
  have hx : rs.length ≤ 281474976710656 := hbd _ (by simp [hdsA, lenT, Cl.tree])
  clear hbd
  obtain ⟨cc, hb, hcf⟩ := code_spec_RingsOk
  refine fn_ok (fn := Tryd.f33) (specs := [.t 2]) (by kernel_rfl) hb (by show (29:Nat) ≤ 10000; omega) hcf (by kernel_rfl) (by show (1:Nat) ≤ 29; omega) (by simp) (by simp) rfl rfl (by simp) rfl ?_
  simp only [c_spec_RingsOk]
  push_cast
  refine cwp_loop (fun i : Nat => ⟨[(0, .val false [.vw none [] (.sl .ow 2 (rs.map XRing.row))]), (3, .val false [.ow (.lit (.int .i64 i))])], []⟩)
    (fun i => i ≤ rs.length ∧ ∀ j, j < i → rAt rs j = true) (fun i => rs.length - i) 0 rfl rfl ⟨by omega, fun j h => by omega⟩ ?_
  rintro i ⟨hle, hall⟩
  push_cast
  refine cnd_dec (fun hlt => ?_) (fun hge => ?_)
  · have hi : i < rs.length := by omega
    push_cast [getD_map hi, XRing.row]
    repeat (first | refine And.intro (by omega) ?_ | refine And.intro ⟨by omega, by omega⟩ ?_ | refine And.intro ⟨by omega, by omega, by omega⟩ ?_)
    have hc := t_specRingOk (G := G) rs[i]
    simp only [XRing.vw] at hc
    refine call_ok hc ?_
    clear hc
    have hr := rAt_eq hi
    by_cases h1 : ringOkF rs[i] = true
    · push_cast [h1, getD_map hi, XRing.row]
      repeat (first | refine And.intro (by omega) ?_ | refine And.intro ⟨by omega, by omega⟩ ?_ | refine And.intro ⟨by omega, by omega, by omega⟩ ?_)
      have hw : IntKind.i64.wrap ((i : Int) + 1) = ((i + 1 : Nat) : Int) := by rw [wrap64 (by omega) (by omega)]; rfl
      by_cases h2 : rs[i].Id = (i : Int) + 1
      · push_cast [h2, hw]
        refine ⟨i + 1, rfl, ⟨by omega, fun j hj => ?_⟩, by omega⟩
        rcases Nat.lt_or_ge j i with h | h
        · exact hall j h
        · obtain rfl : j = i := by omega
          rw [hr, h1, h2]; simp
      · push_cast [h2, hw]
        rw [rings_no hi (by rw [hr, h1]; simp [h2])]
    · have h1' : ringOkF rs[i] = false := by simpa using h1
      push_cast [h1']
      rw [rings_no hi (by rw [hr, h1']; rfl)]
  · push_cast
    refine call_ok (t_l01In rs.length 1 9) ?_
    push_cast
    rw [rings_yes fun j hj => hall j (by omega), show decide (1 ≤ rs.length ∧ rs.length ≤ 9) = decide (1 ≤ (rs.length : Int) ∧ (rs.length : Int) ≤ 9) from decide_eq_decide.2 (by omega)]
noncomputable def c_impl_RingsOk : ACode := (.seq (.reg false [⟨none, .tk 2 (.k (.b false)), []⟩] [0]) (.seq (.seq (.reg false [⟨none, .p 5 (.mv (.t 0)), []⟩, ⟨none, .p 6 (.len false (.t 5)), []⟩, ⟨none, .p 7 (.mv (.k (.i .i64 0))), []⟩] [0, 5, 6, 7]) (.block 0 (.loop [0, 5, 6, 7] (.seq (.reg false [⟨none, .p 8 (.bin .lss (.t 7) (.t 6)), []⟩] [0, 5, 6, 7, 8]) (.seq (.cond (.t 8) .skip (.exit 0 [0])) (.seq (.block 1 (.seq (.reg false [⟨none, .p 9 (.mv (.t 7)), []⟩, ⟨none, .p 10 (.ia (.t 5) (.t 7) 2), []⟩, ⟨none, .p 11 (.ld (.t 10) 0 2 true), []⟩, ⟨none, .alloc 4 [.i .i64 0, .nl 1], []⟩, ⟨none, .asg 3 (.t 9), []⟩, ⟨none, .st (.t 4) (.t 11) 2, []⟩] [0, 3, 4, 5, 6, 7, 10004]) (.seq (.reg false [⟨none, .p 12 (.ld (.t 4) 0 2 true), []⟩, ⟨none, .call (some 13) 62 [.rd (.t 12)], []⟩, ⟨none, .p 14 (.un .not (.t 13)), []⟩, ⟨none, .p 15 (.mv (.t 14)), []⟩, ⟨some (15, false), .p 16 (.fa (.t 4) 0 0), []⟩, ⟨some (15, false), .p 17 (.ld (.t 16) 0 1 false), []⟩, ⟨some (15, false), .p 18 (.mv (.t 3)), []⟩, ⟨some (15, false), .p 19 (.bin .add (.t 18) (.k (.i .i64 1))), []⟩, ⟨some (15, false), .p 20 (.bin .neq (.t 17) (.t 19)), []⟩, ⟨none, .p 21 (.pick (.t 15) (.k (.b true)) (.t 20)), []⟩] [0, 5, 6, 7, 21]) (.cond (.t 21) (.seq (.reg false [⟨none, .tk 2 (.k (.b false)), []⟩] [2]) .ret) .skip)))) (.reg false [⟨none, .p 22 (.bin .add (.t 7) (.k (.i .i64 1))), []⟩, ⟨none, .p 7 (.mv (.t 22)), []⟩] [0, 5, 6, 7]))))))) (.seq (.reg false [⟨none, .p 23 (.mv (.t 0)), []⟩, ⟨none, .p 24 (.len false (.t 23)), []⟩, ⟨none, .call (some 25) 63 [.rd (.t 24), .rd (.k (.i .i64 1)), .rd (.k (.i .i64 9))], []⟩, ⟨none, .tk 2 (.t 25), []⟩] [2]) .ret)))
theorem code_impl_RingsOk : ∃ c, Tryd.f38.body = some c ∧ cfit PP 26 c c_impl_RingsOk = true := by
  refine ⟨_, (rfl : Tryd.f38.body = some _), ?_⟩
  kernel_rfl
theorem t_implRingsOk {G : Glob} (rs : List XRing) : FnD PP G 38 [.val false [.vw none [] (.sl .ow 2 (rs.map XRing.row))]] [] [] [.v false [.ow (.lit (.bool (ringsOkF rs)))]] [] [] := by
  refine fn_bd fun hbd => ?_
  have hx : rs.length ≤ 281474976710656 := hbd _ (by simp [hdsA, lenT, Cl.tree])
  clear hbd
  obtain ⟨cc, hb, hcf⟩ := code_impl_RingsOk
  refine fn_ok (fn := Tryd.f38) (specs := [.t 2]) (by kernel_rfl) hb (by show (26:Nat) ≤ 10000; omega) hcf (by kernel_rfl) (by show (1:Nat) ≤ 26; omega) (by simp) (by simp) rfl rfl (by simp) rfl ?_
  simp only [c_impl_RingsOk]
  push_cast
  refine cwp_loop (fun i : Nat => ⟨[(0, .val false [.vw none [] (.sl .ow 2 (rs.map XRing.row))]), (5, .val false [.vw none [] (.sl .ow 2 (rs.map XRing.row))]), (6, .val false [.ow (.lit (.int .i64 rs.length))]), (7, .val false [.ow (.lit (.int .i64 i))])], []⟩)
    (fun i => i ≤ rs.length ∧ ∀ j, j < i → rAt rs j = true) (fun i => rs.length - i) 0 rfl rfl ⟨by omega, fun j h => by omega⟩ ?_
  rintro i ⟨hle, hall⟩
  push_cast
  refine cnd_dec (fun hlt => ?_) (fun hge => ?_)
  · have hi : i < rs.length := by omega
    push_cast [getD_map hi, XRing.row]
    repeat (first | refine And.intro (by omega) ?_ | refine And.intro ⟨by omega, by omega⟩ ?_ | refine And.intro ⟨by omega, by omega, by omega⟩ ?_)
    have hc := t_implRingOk (G := G) rs[i]
    simp only [XRing.vw] at hc
    refine call_ok hc ?_
    clear hc
    have hr := rAt_eq hi
    by_cases h1 : ringOkF rs[i] = true
    · have hw : IntKind.i64.wrap ((i : Int) + 1) = ((i + 1 : Nat) : Int) := by rw [wrap64 (by omega) (by omega)]; rfl
      by_cases h2 : rs[i].Id = (i : Int) + 1
      · push_cast [h1, h2, hw]
        refine ⟨i + 1, rfl, ⟨by omega, fun j hj => ?_⟩, by omega⟩
        rcases Nat.lt_or_ge j i with h | h
        · exact hall j h
        · obtain rfl : j = i := by omega
          rw [hr, h1, h2]; simp
      · push_cast [h1, h2, hw]
        rw [rings_no hi (by rw [hr, h1]; simp [h2])]
    · have h1' : ringOkF rs[i] = false := by simpa using h1
      push_cast [h1']
      rw [rings_no hi (by rw [hr, h1']; rfl)]
  · push_cast
    refine call_ok (t_inRange rs.length 1 9) ?_
    push_cast
    rw [rings_yes fun j hj => hall j (by omega), show decide (1 ≤ rs.length ∧ rs.length ≤ 9) = decide (1 ≤ (rs.length : Int) ∧ (rs.length : Int) ≤ 9) from decide_eq_decide.2 (by omega)]
noncomputable def c_spec_l14CopyRing : ACode := (.seq (.reg false [⟨none, .box 1 (.t 0), []⟩, ⟨none, .alloc 2 [.i .i64 0, .nl 1], []⟩] [1, 2, 10001, 10002]) (.seq (.reg true [⟨none, .p 3 (.fa (.t 1) 0 0), []⟩, ⟨none, .p 4 (.ld (.t 3) 0 1 false), [0]⟩, ⟨none, .bsl 5 1 [], []⟩, ⟨none, .p 6 (.fa (.t 1) 0 1), []⟩, ⟨none, .p 7 (.ld (.t 6) 0 1 false), [3]⟩, ⟨none, .app 8 (.t 5) (.t 7) 1 8, [2, 4]⟩, ⟨none, .build 9 [.i .i64 0, .nl 1] [(0, 1, (.t 4)), (1, 1, (.t 8))], [1, 5]⟩, ⟨none, .st (.t 2) (.t 9) 2, [6, 5, 0, 1, 2, 3, 4, 5, 6]⟩] [2, 10002]) .ret))
theorem code_spec_l14CopyRing : ∃ c, Tryd.f61.body = some c ∧ cfit PP 10 c c_spec_l14CopyRing = true := by
  refine ⟨_, (rfl : Tryd.f61.body = some _), ?_⟩
  kernel_rfl
theorem t_l14CopyRing {G : Glob} (r : XRing) (hm : r.Members.length ≤ 1048576) : FnD PP G 61 [.val true r.vw] [] [] [.v true r.own] [] [] := by
  obtain ⟨cc, hb, hcf⟩ := code_spec_l14CopyRing
  refine fn_ok (fn := Tryd.f61) (specs := [.c 2 2]) (by kernel_rfl) hb (by show (10:Nat) ≤ 10000; omega) hcf (by kernel_rfl) (by show (1:Nat) ≤ 10; omega) (by simp) (by simp) rfl rfl (by simp) rfl ?_
  simp only [c_spec_l14CopyRing]
  simp only [XRing.vw, XRing.own]
  push_cast
  refine draw_any ?_
  push_cast
  repeat (first | refine And.intro (by omega) ?_ | refine And.intro ⟨by omega, by omega⟩ ?_ | refine And.intro ⟨by omega, by omega, by omega⟩ ?_)
  kernel_rfl
noncomputable def c_spec_l15Rings : ACode := (.seq (.reg false [⟨none, .tk 2 (.k (.nl 2)), []⟩] [0]) (.seq (.reg false [⟨none, .bsl 5 2 [], []⟩, ⟨none, .asg 3 (.t 5), []⟩] [0, 3]) (.seq (.seq (.reg false [⟨none, .asg 4 (.k (.i .i64 0)), []⟩] [0, 3, 4]) (.block 0 (.loop [0, 3, 4] (.seq (.seq (.reg false [⟨none, .p 6 (.mv (.t 4)), []⟩, ⟨none, .p 7 (.mv (.t 0)), []⟩, ⟨none, .p 8 (.len false (.t 7)), []⟩, ⟨none, .p 9 (.bin .lss (.t 6) (.t 8)), []⟩] [0, 3, 4, 9]) (.cond (.t 9) .skip (.exit 0 [3]))) (.seq (.block 1 (.reg false [⟨none, .p 12 (.mv (.t 3)), []⟩, ⟨none, .p 13 (.mv (.t 0)), []⟩, ⟨none, .p 14 (.mv (.t 4)), []⟩, ⟨none, .p 15 (.ia (.t 13) (.t 14) 2), []⟩, ⟨none, .p 16 (.ld (.t 15) 0 2 true), []⟩, ⟨none, .call (some 17) 61 [.rd (.t 16)], []⟩, ⟨none, .bsl 18 2 [(.t 17)], []⟩, ⟨none, .app 19 (.t 12) (.t 18) 2 32, []⟩, ⟨none, .asg 3 (.t 19), []⟩] [0, 3, 4])) (.reg false [⟨none, .p 10 (.mv (.t 4)), []⟩, ⟨none, .p 11 (.bin .add (.t 10) (.k (.i .i64 1))), []⟩, ⟨none, .asg 4 (.t 11), []⟩] [0, 3, 4])))))) (.seq (.reg false [⟨none, .p 20 (.mv (.t 3)), []⟩, ⟨none, .tk 2 (.t 20), []⟩] [2]) .ret))))
theorem code_spec_l15Rings : ∃ c, Tryd.f34.body = some c ∧ cfit PP 21 c c_spec_l15Rings = true := by
  refine ⟨_, (rfl : Tryd.f34.body = some _), ?_⟩
  kernel_rfl
theorem t_l15Rings {G : Glob} (rs : List XRing) (hm : msL XRing.ms rs ≤ 1048576) : FnD PP G 34 [.val false [.vw none [] (.sl .ow 2 (rs.map XRing.row))]] [] [] [.v false [.ow (.sl .ow 2 (rs.map XRing.row))]] [] [] := by
  have hx : rs.length ≤ 1048576 := by simp only [msL] at hm; omega
  obtain ⟨cc, hb, hcf⟩ := code_spec_l15Rings
  refine fn_ok (fn := Tryd.f34) (specs := [.t 2]) (by kernel_rfl) hb (by show (21:Nat) ≤ 10000; omega) hcf (by kernel_rfl) (by show (1:Nat) ≤ 21; omega) (by simp) (by simp) rfl rfl (by simp) rfl ?_
  simp only [c_spec_l15Rings]
  push_cast
  refine cwp_loop (fun i : Nat => ⟨[(0, .val false [.vw none [] (.sl .ow 2 (rs.map XRing.row))]), (3, .val false [.ow (.sl .ow 2 ((rs.take i).map XRing.row))]), (4, .val false [.ow (.lit (.int .i64 i))])], []⟩)
    (fun i => i ≤ rs.length) (fun i => rs.length - i) 0 rfl rfl (by omega) ?_
  rintro i hle
  push_cast
  refine cnd_dec (fun hlt => ?_) (fun hge => ?_)
  · have hi : i < rs.length := by omega
    push_cast [getD_map hi, XRing.row]
    repeat (first | refine And.intro (by omega) ?_ | refine And.intro ⟨by omega, by omega⟩ ?_ | refine And.intro ⟨by omega, by omega, by omega⟩ ?_)
    have hc := t_l14CopyRing (G := G) rs[i] (by have := sum_mem XRing.ms rs i hi; simp only [msL, XRing.ms] at hm this; omega)
    simp only [XRing.vw, XRing.own] at hc
    refine call_ok hc ?_
    clear hc
    push_cast
    refine ⟨by simp; omega, i + 1, ?_, by omega, by omega⟩
    rw [wrap64 (by omega) (by omega), List.take_succ_eq_append_getElem hi, List.map_append]
    rfl
  · have hi : i = rs.length := by omega
    subst hi
    push_cast
noncomputable def c_spec_DaemonNew : ACode := (.seq (.reg false [⟨none, .alloc 2 [.i .i64 0, .b false, .i .i64 0, .i .i64 0, .nl 1, .nl 4, .nl 1, .nl 1, .i .i64 0, .i .i64 0, .i .i64 0, .i .i64 0, .i .i64 0, .i .i64 0, .i .i64 0, .i .i64 0, .i .i64 0, .nl 1, .i .i64 0, .i .i64 0, .i .i64 0, .nl 1, .nl 4, .nl 8], []⟩, ⟨none, .tk 3 (.k (.b false)), []⟩] [0, 2, 10002]) (.seq (.seq (.reg false [⟨none, .p 4 (.mv (.t 0)), []⟩, ⟨none, .call (some 5) 60 [.rd (.t 4), .rd (.k (.i .i64 1)), .rd (.k (.i .i64 5))], []⟩, ⟨none, .p 6 (.un .not (.t 5)), []⟩] [0, 2, 6, 10002]) (.cond (.t 6) (.seq (.reg false [⟨none, .build 7 [.i .i64 0, .b false, .i .i64 0, .i .i64 0, .nl 1, .nl 4, .nl 1, .nl 1, .i .i64 0, .i .i64 0, .i .i64 0, .i .i64 0, .i .i64 0, .i .i64 0, .i .i64 0, .i .i64 0, .i .i64 0, .nl 1, .i .i64 0, .i .i64 0, .i .i64 0, .nl 1, .nl 4, .nl 8] [], []⟩, ⟨none, .st (.t 2) (.t 7) 24, []⟩, ⟨none, .tk 3 (.k (.b false)), []⟩] [2, 3, 10002]) .ret) .skip)) (.seq (.reg false [⟨none, .p 8 (.mv (.t 0)), []⟩, ⟨none, .build 9 [.i .i64 0, .b false, .i .i64 0, .i .i64 0, .nl 1, .nl 4, .nl 1, .nl 1, .i .i64 0, .i .i64 0, .i .i64 0, .i .i64 0, .i .i64 0, .i .i64 0, .i .i64 0, .i .i64 0, .i .i64 0, .nl 1, .i .i64 0, .i .i64 0, .i .i64 0, .nl 1, .nl 4, .nl 8] [(0, 1, (.t 8))], []⟩, ⟨none, .st (.t 2) (.t 9) 24, []⟩, ⟨none, .tk 3 (.k (.b true)), []⟩] [2, 3, 10002]) .ret)))
theorem code_spec_DaemonNew : ∃ c, Tryd.f35.body = some c ∧ cfit PP 10 c c_spec_DaemonNew = true := by
  refine ⟨_, (rfl : Tryd.f35.body = some _), ?_⟩
  kernel_rfl
noncomputable def c_impl_DaemonNew : ACode := (.seq (.reg false [⟨none, .alloc 2 [.i .i64 0, .b false, .i .i64 0, .i .i64 0, .nl 1, .nl 4, .nl 1, .nl 1, .i .i64 0, .i .i64 0, .i .i64 0, .i .i64 0, .i .i64 0, .i .i64 0, .i .i64 0, .i .i64 0, .i .i64 0, .nl 1, .i .i64 0, .i .i64 0, .i .i64 0, .nl 1, .nl 4, .nl 8], []⟩, ⟨none, .tk 3 (.k (.b false)), []⟩] [0, 2, 10002]) (.seq (.seq (.reg false [⟨none, .p 4 (.mv (.t 0)), []⟩, ⟨none, .call (some 5) 65 [.rd (.t 4)], []⟩, ⟨none, .p 6 (.un .not (.t 5)), []⟩] [0, 2, 6, 10002]) (.cond (.t 6) (.seq (.reg false [⟨none, .build 7 [.i .i64 0, .b false, .i .i64 0, .i .i64 0, .nl 1, .nl 4, .nl 1, .nl 1, .i .i64 0, .i .i64 0, .i .i64 0, .i .i64 0, .i .i64 0, .i .i64 0, .i .i64 0, .i .i64 0, .i .i64 0, .nl 1, .i .i64 0, .i .i64 0, .i .i64 0, .nl 1, .nl 4, .nl 8] [], []⟩, ⟨none, .st (.t 2) (.t 7) 24, []⟩, ⟨none, .tk 3 (.k (.b false)), []⟩] [2, 3, 10002]) .ret) .skip)) (.seq (.reg false [⟨none, .p 8 (.mv (.t 0)), []⟩, ⟨none, .build 9 [.i .i64 0, .b false, .i .i64 0, .i .i64 0, .nl 1, .nl 4, .nl 1, .nl 1, .i .i64 0, .i .i64 0, .i .i64 0, .i .i64 0, .i .i64 0, .i .i64 0, .i .i64 0, .i .i64 0, .i .i64 0, .nl 1, .i .i64 0, .i .i64 0, .i .i64 0, .nl 1, .nl 4, .nl 8] [(0, 1, (.t 8))], []⟩, ⟨none, .st (.t 2) (.t 9) 24, []⟩, ⟨none, .tk 3 (.k (.b true)), []⟩] [2, 3, 10002]) .ret)))
theorem code_impl_DaemonNew : ∃ c, Tryd.f40.body = some c ∧ cfit PP 10 c c_impl_DaemonNew = true := by
  refine ⟨_, (rfl : Tryd.f40.body = some _), ?_⟩
  kernel_rfl
def dNew (n : Int) : XDaemon := { XDaemon.zero with Id := n }
theorem t_specDaemonNew {G : Glob} (n : Nat) (h1 : 1 ≤ n) (h2 : n ≤ 5) : FnD PP G 35 [.val false [.ow (.lit (.int .i64 n))]] [] [] [.v true (dNew n).own, .v false [.ow (.lit (.bool true))]] [] [] := by
  obtain ⟨cc, hb, hcf⟩ := code_spec_DaemonNew
  refine fn_ok (fn := Tryd.f35) (specs := [.c 2 24, .t 3]) (by kernel_rfl) hb (by show (10:Nat) ≤ 10000; omega) hcf (by kernel_rfl) (by show (1:Nat) ≤ 10; omega) (by simp) (by simp) rfl rfl (by simp) rfl ?_
  simp only [c_spec_DaemonNew]
  push_cast
  refine call_ok (t_l01In n 1 5) ?_
  have h3 : 1 ≤ (n : Int) ∧ (n : Int) ≤ 5 := by omega
  push_cast [h3]
  rfl
theorem t_implDaemonNew {G : Glob} (n : Nat) (h1 : 1 ≤ n) (h2 : n ≤ 5) : FnD PP G 40 [.val false [.ow (.lit (.int .i64 n))]] [] [] [.v true (dNew n).own, .v false [.ow (.lit (.bool true))]] [] [] := by
  obtain ⟨cc, hb, hcf⟩ := code_impl_DaemonNew
  refine fn_ok (fn := Tryd.f40) (specs := [.c 2 24, .t 3]) (by kernel_rfl) hb (by show (10:Nat) ≤ 10000; omega) hcf (by kernel_rfl) (by show (1:Nat) ≤ 10; omega) (by simp) (by simp) rfl rfl (by simp) rfl ?_
  simp only [c_impl_DaemonNew]
  push_cast
  refine call_ok (t_isDaemon n) ?_
  have h3 : 1 ≤ (n : Int) ∧ (n : Int) ≤ 5 := by omega
  push_cast [h3]
  rfl
end Go.Eng

set_option maxRecDepth 100000
namespace Go.Eng
open Go.Proofs
noncomputable def c_impl_copyRing : ACode := (.seq (.reg false [⟨none, .box 1 (.t 0), []⟩, ⟨none, .alloc 2 [.i .i64 0, .nl 1], []⟩] [1, 2, 10001, 10002]) (.seq (.reg true [⟨none, .p 3 (.fa (.t 1) 0 0), []⟩, ⟨none, .p 4 (.ld (.t 3) 0 1 false), [0]⟩, ⟨none, .p 5 (.fa (.t 1) 0 1), []⟩, ⟨none, .p 6 (.ld (.t 5) 0 1 false), [2]⟩, ⟨none, .call (some 7) 64 [.rd (.t 6)], [3]⟩, ⟨none, .build 8 [.i .i64 0, .nl 1] [(0, 1, (.t 4)), (1, 1, (.t 7))], [1, 4]⟩, ⟨none, .st (.t 2) (.t 8) 2, [5, 4, 0, 1, 2, 3, 4, 5]⟩] [2, 10002]) .ret))
theorem code_impl_copyRing : ∃ c, Tryd.f39.body = some c ∧ cfit PP 9 c c_impl_copyRing = true := by
  refine ⟨_, (rfl : Tryd.f39.body = some _), ?_⟩
  kernel_rfl
theorem t_copyRing {G : Glob} (r : XRing) (hm : r.Members.length ≤ 1048576) : FnD PP G 39 [.val true r.vw] [] [] [.v true r.own] [] [] := by
  obtain ⟨cc, hb, hcf⟩ := code_impl_copyRing
  refine fn_ok (fn := Tryd.f39) (specs := [.c 2 2]) (by kernel_rfl) hb (by show (9:Nat) ≤ 10000; omega) hcf (by kernel_rfl) (by show (1:Nat) ≤ 9; omega) (by simp) (by simp) rfl rfl (by simp) rfl ?_
  simp only [c_impl_copyRing]
  simp only [XRing.vw, XRing.own]
  push_cast
  refine draw_any ?_
  push_cast
  repeat (first | refine And.intro (by omega) ?_ | refine And.intro ⟨by omega, by omega⟩ ?_ | refine And.intro ⟨by omega, by omega, by omega⟩ ?_)
  refine call_ok (t_CloneI r.Members hm) ?_
  push_cast
  kernel_rfl
def dsN (i : Nat) : List XDaemon := (List.range i).map fun j => dNew ((j + 1 : Nat) : Int)
theorem dsN_succ (i : Nat) : dsN (i + 1) = dsN i ++ [dNew ((i + 1 : Nat) : Int)] := by simp [dsN, List.range_succ]
def worldN (rs : List XRing) : XWorld := ⟨rs, dsN 5, [], []⟩
def worldF (rs : List XRing) : XWorld := if ringsOkF rs = true then worldN rs else XWorld.zero
noncomputable def c_spec_WorldNew : ACode := (.seq (.reg false [⟨none, .alloc 2 [.nl 2, .nl 24, .nl 17, .nl 8], []⟩, ⟨none, .tk 3 (.k (.b false)), []⟩] [0, 2, 10002]) (.seq (.seq (.reg false [⟨none, .p 8 (.mv (.t 0)), []⟩, ⟨none, .call (some 9) 33 [.rd (.t 8)], []⟩, ⟨none, .p 10 (.un .not (.t 9)), []⟩] [0, 2, 10, 10002]) (.cond (.t 10) (.seq (.reg false [⟨none, .build 11 [.nl 2, .nl 24, .nl 17, .nl 8] [], []⟩, ⟨none, .st (.t 2) (.t 11) 4, []⟩, ⟨none, .tk 3 (.k (.b false)), []⟩] [2, 3, 10002]) .ret) .skip)) (.seq (.reg false [⟨none, .p 12 (.mv (.t 0)), []⟩, ⟨none, .call (some 13) 34 [.rd (.t 12)], []⟩, ⟨none, .build 14 [.nl 2, .nl 24, .nl 17, .nl 8] [(0, 1, (.t 13))], []⟩, ⟨none, .alloc 4 [.nl 2, .nl 24, .nl 17, .nl 8], []⟩, ⟨none, .st (.t 4) (.t 14) 4, []⟩] [2, 4, 10002, 10004]) (.seq (.seq (.reg false [⟨none, .asg 5 (.k (.i .i64 1)), []⟩] [2, 4, 5, 10002, 10004]) (.block 0 (.loop [2, 4, 5, 10002, 10004] (.seq (.seq (.reg false [⟨none, .p 15 (.mv (.t 5)), []⟩, ⟨none, .p 16 (.bin .leq (.t 15) (.k (.i .i64 5))), []⟩] [2, 4, 5, 16, 10002, 10004]) (.cond (.t 16) .skip (.exit 0 [2, 4, 10002, 10004]))) (.seq (.block 1 (.seq (.reg false [⟨none, .p 20 (.mv (.t 5)), []⟩, ⟨none, .call (some 21) 35 [.rd (.t 20)], []⟩, ⟨none, .p 19 (.mv (.t 21)), []⟩, ⟨none, .ext 22 19 0, []⟩, ⟨none, .ext 23 19 1, []⟩, ⟨none, .alloc 6 [.i .i64 0, .b false, .i .i64 0, .i .i64 0, .nl 1, .nl 4, .nl 1, .nl 1, .i .i64 0, .i .i64 0, .i .i64 0, .i .i64 0, .i .i64 0, .i .i64 0, .i .i64 0, .i .i64 0, .i .i64 0, .nl 1, .i .i64 0, .i .i64 0, .i .i64 0, .nl 1, .nl 4, .nl 8], []⟩, ⟨none, .st (.t 6) (.t 22) 24, []⟩, ⟨none, .asg 7 (.t 23), []⟩] [2, 4, 5, 6, 10002, 10004, 10006]) (.reg false [⟨none, .p 24 (.fa (.t 4) 0 1), []⟩, ⟨none, .p 25 (.ld (.t 24) 0 1 false), []⟩, ⟨none, .p 26 (.ld (.t 6) 0 24 true), []⟩, ⟨none, .bsl 27 24 [(.t 26)], []⟩, ⟨none, .app 28 (.t 25) (.t 27) 24 320, []⟩, ⟨none, .p 29 (.fa (.t 4) 0 1), []⟩, ⟨none, .st (.t 29) (.t 28) 1, []⟩] [2, 4, 5, 10002, 10004]))) (.reg false [⟨none, .p 17 (.mv (.t 5)), []⟩, ⟨none, .p 18 (.bin .add (.t 17) (.k (.i .i64 1))), []⟩, ⟨none, .asg 5 (.t 18), []⟩] [2, 4, 5, 10002, 10004])))))) (.seq (.reg false [⟨none, .p 30 (.ld (.t 4) 0 4 true), []⟩, ⟨none, .st (.t 2) (.t 30) 4, []⟩, ⟨none, .tk 3 (.k (.b true)), []⟩] [2, 3, 10002]) .ret)))))
theorem code_spec_WorldNew : ∃ c, Tryd.f14.body = some c ∧ cfit PP 31 c c_spec_WorldNew = true := by
  refine ⟨_, (rfl : Tryd.f14.body = some _), ?_⟩
  kernel_rfl
theorem t_specWorldNew {G : Glob} (rs : List XRing) (hm : msL XRing.ms rs ≤ 1048576) : FnD PP G 14 [.val false [.vw none [] (.sl .ow 2 (rs.map XRing.row))]] [] [] [.v true (worldF rs).own, .v false [.ow (.lit (.bool (ringsOkF rs)))]] [] [] := by
  obtain ⟨cc, hb, hcf⟩ := code_spec_WorldNew
  refine fn_ok (fn := Tryd.f14) (specs := [.c 2 4, .t 3]) (by kernel_rfl) hb (by show (31:Nat) ≤ 10000; omega) hcf (by kernel_rfl) (by show (1:Nat) ≤ 31; omega) (by simp) (by simp) rfl rfl (by simp) rfl ?_
  simp only [c_spec_WorldNew]
  push_cast
  refine call_ok (t_specRingsOk rs) ?_
  by_cases hok : ringsOkF rs = true
  · push_cast [hok]
    refine call_ok (t_l15Rings rs hm) ?_
    push_cast
    refine cwp_loop (fun i : Nat => ⟨[(2, .pr 10002 0), (4, .pr 10004 0), (5, .val false [.ow (.lit (.int .i64 (i + 1 : Nat)))]), (10002, .mem [.ow (.sl .ow 2 []), .ow (.sl .ow 24 []), .ow (.sl .ow 17 []), .ow (.sl .ow 8 [])]), (10004, .mem [.ow (.sl .ow 2 (rs.map XRing.row)), .ow (.sl .ow 24 ((dsN i).map XDaemon.row)), .ow (.sl .ow 17 []), .ow (.sl .ow 8 [])])], []⟩)
      (fun i => i ≤ 5) (fun i => 5 - i) 0 rfl rfl (by omega) ?_
    intro i hle
    push_cast
    refine cnd_dec (fun hlt => ?_) (fun hge => ?_)
    · have hi : i < 5 := by omega
      push_cast
      have hc := t_specDaemonNew (G := G) (i + 1) (by omega) (by omega)
      simp only [dNew, XDaemon.own, XDaemon.zero, XMate.zero, XRing.zero, XToken.zero, List.map_nil, Int.natCast_add, Int.natCast_one] at hc
      refine call_ok hc ?_
      clear hc
      push_cast
      have hl : (dsN i).length = i := by simp [dsN]
      refine ⟨by omega, i + 1, ?_, by omega, by omega⟩
      rw [wrap64 (by omega) (by omega), dsN_succ, List.map_append]
      rfl
    · have hi : i = 5 := by omega
      subst hi
      push_cast
      simp only [worldF, hok]
      rfl
  · have hok' : ringsOkF rs = false := by simpa using hok
    push_cast [hok']
    simp only [worldF, hok']
    rfl
noncomputable def c_impl_WorldNew : ACode := (.seq (.reg false [⟨none, .alloc 2 [.nl 2, .nl 24, .nl 17, .nl 8], []⟩, ⟨none, .tk 3 (.k (.b false)), []⟩] [0, 2, 10002]) (.seq (.seq (.reg false [⟨none, .p 10 (.mv (.t 0)), []⟩, ⟨none, .call (some 11) 38 [.rd (.t 10)], []⟩, ⟨none, .p 12 (.un .not (.t 11)), []⟩] [0, 2, 12, 10002]) (.cond (.t 12) (.seq (.reg false [⟨none, .build 13 [.nl 2, .nl 24, .nl 17, .nl 8] [], []⟩, ⟨none, .st (.t 2) (.t 13) 4, []⟩, ⟨none, .tk 3 (.k (.b false)), []⟩] [2, 3, 10002]) .ret) .skip)) (.seq (.reg false [⟨none, .alloc 4 [.nl 2, .nl 24, .nl 17, .nl 8], []⟩] [0, 2, 4, 10002, 10004]) (.seq (.seq (.reg false [⟨none, .p 14 (.mv (.t 0)), []⟩, ⟨none, .p 15 (.len false (.t 14)), []⟩, ⟨none, .p 16 (.mv (.k (.i .i64 0))), []⟩] [2, 4, 14, 15, 16, 10002, 10004]) (.block 0 (.loop [2, 4, 14, 15, 16, 10002, 10004] (.seq (.reg false [⟨none, .p 17 (.bin .lss (.t 16) (.t 15)), []⟩] [2, 4, 14, 15, 16, 17, 10002, 10004]) (.seq (.cond (.t 17) .skip (.exit 0 [2, 4, 10002, 10004])) (.seq (.block 1 (.seq (.reg false [⟨none, .p 18 (.ia (.t 14) (.t 16) 2), []⟩, ⟨none, .p 19 (.ld (.t 18) 0 2 true), []⟩, ⟨none, .alloc 6 [.i .i64 0, .nl 1], []⟩, ⟨none, .st (.t 6) (.t 19) 2, []⟩] [2, 4, 6, 14, 15, 16, 10002, 10004, 10006]) (.reg true [⟨none, .p 20 (.fa (.t 4) 0 0), []⟩, ⟨none, .p 21 (.ld (.t 20) 0 1 false), [0]⟩, ⟨none, .p 22 (.ld (.t 6) 0 2 true), []⟩, ⟨none, .call (some 23) 39 [.rd (.t 22)], [2]⟩, ⟨none, .bsl 24 2 [(.t 23)], [3]⟩, ⟨none, .app 25 (.t 21) (.t 24) 2 32, [1, 4, 3]⟩, ⟨none, .p 26 (.fa (.t 4) 0 0), [0, 1, 2, 3, 4, 5]⟩, ⟨none, .st (.t 26) (.t 25) 1, [6, 5, 5, 0, 1, 2, 3, 4, 5]⟩] [2, 4, 14, 15, 16, 10002, 10004]))) (.reg false [⟨none, .p 27 (.bin .add (.t 16) (.k (.i .i64 1))), []⟩, ⟨none, .p 16 (.mv (.t 27)), []⟩] [2, 4, 14, 15, 16, 10002, 10004]))))))) (.seq (.seq (.reg false [⟨none, .asg 7 (.k (.i .i64 1)), []⟩] [2, 4, 7, 10002, 10004]) (.block 2 (.loop [2, 4, 7, 10002, 10004] (.seq (.seq (.reg false [⟨none, .p 28 (.mv (.t 7)), []⟩, ⟨none, .p 29 (.bin .leq (.t 28) (.k (.i .i64 5))), []⟩] [2, 4, 7, 29, 10002, 10004]) (.cond (.t 29) .skip (.exit 2 [2, 4, 10002, 10004]))) (.seq (.block 3 (.seq (.reg false [⟨none, .p 33 (.mv (.t 7)), []⟩, ⟨none, .call (some 34) 40 [.rd (.t 33)], []⟩, ⟨none, .p 32 (.mv (.t 34)), []⟩, ⟨none, .ext 35 32 0, []⟩, ⟨none, .ext 36 32 1, []⟩, ⟨none, .alloc 8 [.i .i64 0, .b false, .i .i64 0, .i .i64 0, .nl 1, .nl 4, .nl 1, .nl 1, .i .i64 0, .i .i64 0, .i .i64 0, .i .i64 0, .i .i64 0, .i .i64 0, .i .i64 0, .i .i64 0, .i .i64 0, .nl 1, .i .i64 0, .i .i64 0, .i .i64 0, .nl 1, .nl 4, .nl 8], []⟩, ⟨none, .st (.t 8) (.t 35) 24, []⟩, ⟨none, .asg 9 (.t 36), []⟩] [2, 4, 7, 8, 10002, 10004, 10008]) (.reg false [⟨none, .p 37 (.fa (.t 4) 0 1), []⟩, ⟨none, .p 38 (.ld (.t 37) 0 1 false), []⟩, ⟨none, .p 39 (.ld (.t 8) 0 24 true), []⟩, ⟨none, .bsl 40 24 [(.t 39)], []⟩, ⟨none, .app 41 (.t 38) (.t 40) 24 320, []⟩, ⟨none, .p 42 (.fa (.t 4) 0 1), []⟩, ⟨none, .st (.t 42) (.t 41) 1, []⟩] [2, 4, 7, 10002, 10004]))) (.reg false [⟨none, .p 30 (.mv (.t 7)), []⟩, ⟨none, .p 31 (.bin .add (.t 30) (.k (.i .i64 1))), []⟩, ⟨none, .asg 7 (.t 31), []⟩] [2, 4, 7, 10002, 10004])))))) (.seq (.reg false [⟨none, .p 43 (.ld (.t 4) 0 4 true), []⟩, ⟨none, .st (.t 2) (.t 43) 4, []⟩, ⟨none, .tk 3 (.k (.b true)), []⟩] [2, 3, 10002]) .ret))))))
theorem code_impl_WorldNew : ∃ c, Tryd.f17.body = some c ∧ cfit PP 44 c c_impl_WorldNew = true := by
  refine ⟨_, (rfl : Tryd.f17.body = some _), ?_⟩
  kernel_rfl
theorem t_implWorldNew {G : Glob} (rs : List XRing) (hm : msL XRing.ms rs ≤ 1048576) : FnD PP G 17 [.val false [.vw none [] (.sl .ow 2 (rs.map XRing.row))]] [] [] [.v true (worldF rs).own, .v false [.ow (.lit (.bool (ringsOkF rs)))]] [] [] := by
  have hx : rs.length ≤ 1048576 := by simp only [msL] at hm; omega
  obtain ⟨cc, hb, hcf⟩ := code_impl_WorldNew
  refine fn_ok (fn := Tryd.f17) (specs := [.c 2 4, .t 3]) (by kernel_rfl) hb (by show (44:Nat) ≤ 10000; omega) hcf (by kernel_rfl) (by show (1:Nat) ≤ 44; omega) (by simp) (by simp) rfl rfl (by simp) rfl ?_
  simp only [c_impl_WorldNew]
  push_cast
  refine call_ok (t_implRingsOk rs) ?_
  by_cases hok : ringsOkF rs = true
  · push_cast [hok]
    refine cwp_loop (fun i : Nat => ⟨[(2, .pr 10002 0), (4, .pr 10004 0), (14, .val false [.vw none [] (.sl .ow 2 (rs.map XRing.row))]), (15, .val false [.ow (.lit (.int .i64 rs.length))]), (16, .val false [.ow (.lit (.int .i64 i))]), (10002, .mem [.ow (.sl .ow 2 []), .ow (.sl .ow 24 []), .ow (.sl .ow 17 []), .ow (.sl .ow 8 [])]), (10004, .mem [.ow (.sl .ow 2 ((rs.take i).map XRing.row)), .ow (.sl .ow 24 []), .ow (.sl .ow 17 []), .ow (.sl .ow 8 [])])], []⟩)
      (fun i => i ≤ rs.length) (fun i => rs.length - i) 0 rfl rfl (by omega) ?_
    intro i hle
    push_cast
    refine cnd_dec (fun hlt => ?_) (fun hge => ?_)
    · have hi : i < rs.length := by omega
      push_cast [getD_map hi, XRing.row]
      repeat (first | refine And.intro (by omega) ?_ | refine And.intro ⟨by omega, by omega⟩ ?_ | refine And.intro ⟨by omega, by omega, by omega⟩ ?_)
      refine draw_any ?_
      push_cast
      have hc := t_copyRing (G := G) rs[i] (by have := sum_mem XRing.ms rs i hi; simp only [msL, XRing.ms] at hm this; omega)
      simp only [XRing.vw, XRing.own] at hc
      refine call_ok hc ?_
      clear hc
      push_cast
      refine ⟨by simp; omega, by kernel_rfl, i + 1, ?_, by omega, by omega⟩
      rw [wrap64 (by omega) (by omega), List.take_succ_eq_append_getElem hi, List.map_append]
      rfl
    · have hi : i = rs.length := by omega
      subst hi
      push_cast
      refine cwp_loop (fun i : Nat => ⟨[(2, .pr 10002 0), (4, .pr 10004 0), (7, .val false [.ow (.lit (.int .i64 (i + 1 : Nat)))]), (10002, .mem [.ow (.sl .ow 2 []), .ow (.sl .ow 24 []), .ow (.sl .ow 17 []), .ow (.sl .ow 8 [])]), (10004, .mem [.ow (.sl .ow 2 (rs.map XRing.row)), .ow (.sl .ow 24 ((dsN i).map XDaemon.row)), .ow (.sl .ow 17 []), .ow (.sl .ow 8 [])])], []⟩)
        (fun i => i ≤ 5) (fun i => 5 - i) 0 rfl rfl (by omega) ?_
      intro i hle
      push_cast
      refine cnd_dec (fun hlt => ?_) (fun hge => ?_)
      · have hi : i < 5 := by omega
        push_cast
        have hc := t_implDaemonNew (G := G) (i + 1) (by omega) (by omega)
        simp only [dNew, XDaemon.own, XDaemon.zero, XMate.zero, XRing.zero, XToken.zero, List.map_nil, Int.natCast_add, Int.natCast_one] at hc
        refine call_ok hc ?_
        clear hc
        push_cast
        have hl : (dsN i).length = i := by simp [dsN]
        refine ⟨by omega, i + 1, ?_, by omega, by omega⟩
        rw [wrap64 (by omega) (by omega), dsN_succ, List.map_append]
        rfl
      · have hi : i = 5 := by omega
        subst hi
        push_cast
        simp only [worldF, hok]
        rfl
  · have hok' : ringsOkF rs = false := by simpa using hok
    push_cast [hok']
    simp only [worldF, hok']
    rfl
end Go.Eng

set_option maxRecDepth 100000
namespace Go.Eng
open Go.Proofs
noncomputable def c_spec_l01Figure : ACode := (.seq (.reg false [⟨none, .tk 2 (.k (.i .u8 0)), []⟩] [0]) (.seq (.seq (.reg false [⟨none, .p 3 (.mv (.t 0)), []⟩, ⟨none, .p 4 (.bin .lss (.t 3) (.k (.i .i64 10))), []⟩] [0, 4]) (.cond (.t 4) (.seq (.reg false [⟨none, .p 5 (.mv (.t 0)), []⟩, ⟨none, .p 6 (.bin .add (.k (.i .i64 48)) (.t 5)), []⟩, ⟨none, .p 7 (.conv .u8 (.t 6)), []⟩, ⟨none, .tk 2 (.t 7), []⟩] [2]) .ret) .skip)) (.seq (.reg false [⟨none, .p 8 (.mv (.t 0)), []⟩, ⟨none, .p 9 (.bin .add (.k (.i .i64 97)) (.t 8)), []⟩, ⟨none, .p 10 (.bin .sub (.t 9) (.k (.i .i64 10))), []⟩, ⟨none, .p 11 (.conv .u8 (.t 10)), []⟩, ⟨none, .tk 2 (.t 11), []⟩] [2]) .ret)))
theorem code_spec_l01Figure : ∃ c, Tryd.f36.body = some c ∧ cfit PP 12 c c_spec_l01Figure = true := by
  refine ⟨_, (rfl : Tryd.f36.body = some _), ?_⟩
  kernel_rfl
theorem t_l01Figure {G : Glob} (n : Nat) (h : n < 10) : FnD PP G 36 [.val false [.ow (.lit (.int .i64 n))]] [] [] [.v false [.ow (.lit (.int .u8 (48 + n : Nat)))]] [] [] := by
  obtain ⟨cc, hb, hcf⟩ := code_spec_l01Figure
  refine fn_ok (fn := Tryd.f36) (specs := [.t 2]) (by kernel_rfl) hb (by show (12:Nat) ≤ 10000; omega) hcf (by kernel_rfl) (by show (1:Nat) ≤ 12; omega) (by simp) (by simp) rfl rfl (by simp) rfl ?_
  simp only [c_spec_l01Figure]
  push_cast
  refine cnd_dec (fun hlt => ?_) (fun hge => by omega)
  push_cast
  have e1 : IntKind.i64.wrap (48 + (n : Int)) = ((48 + n : Nat) : Int) := by rw [wrap64 (by omega) (by omega)]; omega
  have e2 : IntKind.u8.wrap ((48 + n : Nat) : Int) = ((48 + n : Nat) : Int) := by rw [IntKind.wrap_u8]; omega
  rw [e1, e2]
  simp
noncomputable def c_spec_Decimal : ACode := (.seq (.reg false [⟨none, .tk 2 (.k (.s emp)), []⟩] [0]) (.seq (.seq (.reg false [⟨none, .p 6 (.mv (.t 0)), []⟩, ⟨none, .p 7 (.bin .eql (.t 6) (.k (.i .i64 0))), []⟩] [0, 7]) (.cond (.t 7) (.seq (.reg false [⟨none, .tk 2 (.k (.s (bs [48]))), []⟩] [2]) .ret) .skip)) (.seq (.reg false [⟨none, .p 8 (.mv (.t 0)), []⟩, ⟨none, .p 9 (.bin .lss (.t 8) (.k (.i .i64 0))), []⟩, ⟨none, .asg 3 (.t 9), []⟩] [0, 3]) (.seq (.reg false [⟨none, .asg 4 (.k (.s emp)), []⟩] [0, 3, 4]) (.seq (.block 0 (.loop [0, 3, 4] (.seq (.seq (.reg false [⟨none, .p 10 (.mv (.t 0)), []⟩, ⟨none, .p 11 (.bin .neq (.t 10) (.k (.i .i64 0))), []⟩] [0, 3, 4, 11]) (.cond (.t 11) .skip (.exit 0 [3, 4]))) (.block 1 (.seq (.reg false [⟨none, .p 12 (.mv (.t 0)), []⟩, ⟨none, .p 13 (.bin .rem (.t 12) (.k (.i .i64 10))), []⟩, ⟨none, .asg 5 (.t 13), []⟩] [0, 3, 4, 5]) (.seq (.seq (.reg false [⟨none, .p 14 (.mv (.t 5)), []⟩, ⟨none, .p 15 (.bin .lss (.t 14) (.k (.i .i64 0))), []⟩] [0, 3, 4, 5, 15]) (.cond (.t 15) (.reg false [⟨none, .p 16 (.mv (.t 5)), []⟩, ⟨none, .p 17 (.un .neg (.t 16)), []⟩, ⟨none, .asg 5 (.t 17), []⟩] [0, 3, 4, 5]) .skip)) (.seq (.reg false [⟨none, .p 18 (.mv (.t 5)), []⟩, ⟨none, .call (some 19) 36 [.rd (.t 18)], []⟩, ⟨none, .bsl 20 1 [(.t 19)], []⟩, ⟨none, .p 21 (.b2s (.t 20)), []⟩, ⟨none, .p 22 (.mv (.t 4)), []⟩, ⟨none, .p 23 (.bin .add (.t 21) (.t 22)), []⟩, ⟨none, .asg 4 (.t 23), []⟩] [0, 3, 4]) (.reg false [⟨none, .p 24 (.mv (.t 0)), []⟩, ⟨none, .p 25 (.bin .quo (.t 24) (.k (.i .i64 10))), []⟩, ⟨none, .asg 0 (.t 25), []⟩] [0, 3, 4])))))))) (.seq (.seq (.reg false [⟨none, .p 26 (.mv (.t 3)), []⟩] [4, 26]) (.cond (.t 26) (.seq (.reg false [⟨none, .p 27 (.mv (.t 4)), []⟩, ⟨none, .p 28 (.bin .add (.k (.s (bs [45]))) (.t 27)), []⟩, ⟨none, .tk 2 (.t 28), []⟩] [2]) .ret) .skip)) (.seq (.reg false [⟨none, .p 29 (.mv (.t 4)), []⟩, ⟨none, .tk 2 (.t 29), []⟩] [2]) .ret)))))))
theorem code_spec_Decimal : ∃ c, Tryd.f15.body = some c ∧ cfit PP 30 c c_spec_Decimal = true := by
  refine ⟨_, (rfl : Tryd.f15.body = some _), ?_⟩
  kernel_rfl
theorem t_specDecimal {G : Glob} (n : Nat) (h1 : 1 ≤ n) (h : n < 10) : FnD PP G 15 [.val false [.ow (.lit (.int .i64 n))]] [] [] [.v false [.ow (.lit (.string (byteB (48 + n))))]] [] [] := by
  obtain ⟨cc, hb, hcf⟩ := code_spec_Decimal
  refine fn_ok (fn := Tryd.f15) (specs := [.t 2]) (by kernel_rfl) hb (by show (30:Nat) ≤ 10000; omega) hcf (by kernel_rfl) (by show (1:Nat) ≤ 30; omega) (by simp) (by simp) rfl rfl (by simp) rfl ?_
  simp only [c_spec_Decimal]
  have hn0 : ¬ (n : Int) = 0 := by omega
  have hn1 : ¬ (n : Int) < 0 := by omega
  push_cast [hn0, hn1]
  refine cwp_loop (fun b : Bool => ⟨[(0, .val false [.ow (.lit (.int .i64 (if b then 0 else (n : Int))))]), (3, .val false [.ow (.lit (.bool false))]), (4, .val false [.ow (.lit (.string (if b then byteB (48 + n) else emp)))])], []⟩)
    (fun _ => True) (fun b => if b then 0 else 1) false rfl rfl trivial ?_
  intro b _
  cases b with
  | false =>
    push_cast [hn0]
    have e1 : (n : Int).tmod 10 = (n : Int) := Int.tmod_eq_of_lt (by omega) (by omega)
    have e2 : (n : Int).tdiv 10 = 0 := Int.tdiv_eq_zero_of_lt (by omega) (by omega)
    rw [e1]
    push_cast [hn1]
    refine call_ok (t_l01Figure n h) ?_
    push_cast [e2]
    have e5 : (ByteArray.mk #[UInt8.ofNat (48 + (n : Int)).toNat]) = byteB (48 + n) := by
      rw [show (48 + (n : Int)).toNat = 48 + n by omega]; rfl
    have e6 : byteB (48 + n) ++ emp = byteB (48 + n) := ByteArray.append_empty
    rw [e5, e6]
    refine ⟨by rw [byteB_size]; decide, true, ?_, by simp⟩
    rw [wrap64 (by omega) (by omega)]
    simp
  | true =>
    push_cast
noncomputable def c_impl_Decimal : ACode := (.seq (.reg false [⟨none, .tk 2 (.k (.s emp)), []⟩] [0]) (.seq (.reg false [⟨none, .p 3 (.mv (.t 0)), []⟩, ⟨none, .call (some 4) 41 [.rd (.t 3)], []⟩, ⟨none, .tk 2 (.t 4), []⟩] [2]) .ret))
theorem code_impl_Decimal : ∃ c, Tryd.f18.body = some c ∧ cfit PP 5 c c_impl_Decimal = true := by
  refine ⟨_, (rfl : Tryd.f18.body = some _), ?_⟩
  kernel_rfl
theorem t_implDecimal {G : Glob} (n : Nat) (h : n < 10) : FnD PP G 18 [.val false [.ow (.lit (.int .i64 n))]] [] [] [.v false [.ow (.lit (.string (byteB (48 + n))))]] [] [] := by
  obtain ⟨cc, hb, hcf⟩ := code_impl_Decimal
  refine fn_ok (fn := Tryd.f18) (specs := [.t 2]) (by kernel_rfl) hb (by show (5:Nat) ≤ 10000; omega) hcf (by kernel_rfl) (by show (1:Nat) ≤ 5; omega) (by simp) (by simp) rfl rfl (by simp) rfl ?_
  simp only [c_impl_Decimal]
  push_cast
  refine call_ok (t_Itoa n h) ?_
  push_cast
def callerN (i : Nat) : XCaller := { XCaller.zero with Session := { XSession.zero with Daemon := (((i + 1) % 2 + 1 : Nat) : Int) }, Box := { XBox.zero with Name := bs [99] ++ byteB (48 + (i + 1)) } }
def csN (i : Nat) : List XCaller := (List.range i).map callerN
theorem csN_succ (i : Nat) : csN (i + 1) = csN i ++ [callerN i] := by simp [csN, List.range_succ]
def hallN (rs : List XRing) : XHall := ⟨worldN rs, csN 4, List.replicate 5 ⟨[]⟩, List.replicate 5 0⟩
def hallF (rs : List XRing) : XHall := if ringsOkF rs = true then hallN rs else XHall.zero
noncomputable def c_spec_HallNew : ACode := (.seq (.reg false [⟨none, .alloc 2 [.nl 2, .nl 24, .nl 17, .nl 8, .nl 11, .nl 1, .nl 1], []⟩, ⟨none, .tk 3 (.k (.b false)), []⟩] [0, 2, 10002]) (.seq (.reg false [⟨none, .p 10 (.mv (.t 0)), []⟩, ⟨none, .call (some 11) 14 [.rd (.t 10)], []⟩, ⟨none, .p 9 (.mv (.t 11)), []⟩, ⟨none, .ext 12 9 0, []⟩, ⟨none, .ext 13 9 1, []⟩, ⟨none, .alloc 4 [.nl 2, .nl 24, .nl 17, .nl 8], []⟩, ⟨none, .st (.t 4) (.t 12) 4, []⟩, ⟨none, .asg 5 (.t 13), []⟩] [2, 4, 5, 10002, 10004]) (.seq (.seq (.reg false [⟨none, .p 14 (.mv (.t 5)), []⟩, ⟨none, .p 15 (.un .not (.t 14)), []⟩] [2, 4, 15, 10002, 10004]) (.cond (.t 15) (.seq (.reg false [⟨none, .build 16 [.nl 2, .nl 24, .nl 17, .nl 8, .nl 11, .nl 1, .nl 1] [], []⟩, ⟨none, .st (.t 2) (.t 16) 7, []⟩, ⟨none, .tk 3 (.k (.b false)), []⟩] [2, 3, 10002]) .ret) .skip)) (.seq (.reg false [⟨none, .p 17 (.ld (.t 4) 0 4 true), []⟩, ⟨none, .build 18 [.nl 2, .nl 24, .nl 17, .nl 8, .nl 11, .nl 1, .nl 1] [(0, 4, (.t 17))], []⟩, ⟨none, .alloc 6 [.nl 2, .nl 24, .nl 17, .nl 8, .nl 11, .nl 1, .nl 1], []⟩, ⟨none, .st (.t 6) (.t 18) 7, []⟩] [2, 6, 10002, 10006]) (.seq (.seq (.reg false [⟨none, .asg 7 (.k (.i .i64 1)), []⟩] [2, 6, 7, 10002, 10006]) (.block 0 (.loop [2, 6, 7, 10002, 10006] (.seq (.seq (.reg false [⟨none, .p 19 (.mv (.t 7)), []⟩, ⟨none, .p 20 (.bin .leq (.t 19) (.k (.i .i64 4))), []⟩] [2, 6, 7, 20, 10002, 10006]) (.cond (.t 20) .skip (.exit 0 [2, 6, 10002, 10006]))) (.seq (.block 1 (.reg true [⟨none, .p 23 (.fa (.t 6) 0 4), []⟩, ⟨none, .p 24 (.ld (.t 23) 0 1 false), [0]⟩, ⟨none, .p 25 (.mv (.t 7)), []⟩, ⟨none, .p 26 (.bin .rem (.t 25) (.k (.i .i64 2))), [2]⟩, ⟨none, .p 27 (.bin .add (.t 26) (.k (.i .i64 1))), [3]⟩, ⟨none, .build 28 [.i .i64 0, .s emp, .s emp, .b false, .b false, .nl 1] [(0, 1, (.t 27))], [4]⟩, ⟨none, .p 29 (.mv (.t 7)), []⟩, ⟨none, .call (some 30) 15 [.rd (.t 29)], [6]⟩, ⟨none, .p 31 (.bin .add (.k (.s (bs [99]))) (.t 30)), [7]⟩, ⟨none, .build 32 [.s emp, .nl 1, .b false] [(0, 1, (.t 31))], [8]⟩, ⟨none, .build 33 [.i .i64 0, .s emp, .s emp, .b false, .b false, .nl 1, .s emp, .nl 1, .b false, .s emp, .nl 1] [(0, 6, (.t 28)), (6, 3, (.t 32))], [5, 9]⟩, ⟨none, .bsl 34 11 [(.t 33)], [10]⟩, ⟨none, .app 35 (.t 24) (.t 34) 11 168, [1, 11, 7]⟩, ⟨none, .p 36 (.fa (.t 6) 0 4), [0, 1, 2, 3, 4, 5, 6, 7, 8, 9, 10, 11, 12]⟩, ⟨none, .st (.t 36) (.t 35) 1, [13, 12, 12, 0, 1, 2, 3, 4, 5, 6, 7, 8, 9, 10, 11, 12]⟩] [2, 6, 7, 10002, 10006])) (.reg false [⟨none, .p 21 (.mv (.t 7)), []⟩, ⟨none, .p 22 (.bin .add (.t 21) (.k (.i .i64 1))), []⟩, ⟨none, .asg 7 (.t 22), []⟩] [2, 6, 7, 10002, 10006])))))) (.seq (.seq (.reg false [⟨none, .asg 8 (.k (.i .i64 1)), []⟩] [2, 6, 8, 10002, 10006]) (.block 2 (.loop [2, 6, 8, 10002, 10006] (.seq (.seq (.reg false [⟨none, .p 37 (.mv (.t 8)), []⟩, ⟨none, .p 38 (.bin .leq (.t 37) (.k (.i .i64 5))), []⟩] [2, 6, 8, 38, 10002, 10006]) (.cond (.t 38) .skip (.exit 2 [2, 6, 10002, 10006]))) (.seq (.block 3 (.seq (.reg false [⟨none, .p 41 (.fa (.t 6) 0 5), []⟩, ⟨none, .p 42 (.ld (.t 41) 0 1 false), []⟩, ⟨none, .build 43 [.nl 2] [], []⟩, ⟨none, .bsl 44 1 [(.t 43)], []⟩, ⟨none, .app 45 (.t 42) (.t 44) 1 24, []⟩, ⟨none, .p 46 (.fa (.t 6) 0 5), []⟩, ⟨none, .st (.t 46) (.t 45) 1, []⟩] [2, 6, 8, 10002, 10006]) (.reg false [⟨none, .p 47 (.fa (.t 6) 0 6), []⟩, ⟨none, .p 48 (.ld (.t 47) 0 1 false), []⟩, ⟨none, .bsl 49 1 [(.k (.i .i64 0))], []⟩, ⟨none, .app 50 (.t 48) (.t 49) 1 8, []⟩, ⟨none, .p 51 (.fa (.t 6) 0 6), []⟩, ⟨none, .st (.t 51) (.t 50) 1, []⟩] [2, 6, 8, 10002, 10006]))) (.reg false [⟨none, .p 39 (.mv (.t 8)), []⟩, ⟨none, .p 40 (.bin .add (.t 39) (.k (.i .i64 1))), []⟩, ⟨none, .asg 8 (.t 40), []⟩] [2, 6, 8, 10002, 10006])))))) (.seq (.reg false [⟨none, .p 52 (.ld (.t 6) 0 7 true), []⟩, ⟨none, .st (.t 2) (.t 52) 7, []⟩, ⟨none, .tk 3 (.k (.b true)), []⟩] [2, 3, 10002]) .ret)))))))
theorem code_spec_HallNew : ∃ c, Tryd.f5.body = some c ∧ cfit PP 53 c c_spec_HallNew = true := by
  refine ⟨_, (rfl : Tryd.f5.body = some _), ?_⟩
  kernel_rfl
theorem t_specHallNew {G : Glob} (rs : List XRing) (hm : msL XRing.ms rs ≤ 1048576) : FnD PP G 5 [.val false [.vw none [] (.sl .ow 2 (rs.map XRing.row))]] [] [] [.v true (hallF rs).own, .v false [.ow (.lit (.bool (ringsOkF rs)))]] [] [] := by
  obtain ⟨cc, hb, hcf⟩ := code_spec_HallNew
  refine fn_ok (fn := Tryd.f5) (specs := [.c 2 7, .t 3]) (by kernel_rfl) hb (by show (53:Nat) ≤ 10000; omega) hcf (by kernel_rfl) (by show (1:Nat) ≤ 53; omega) (by simp) (by simp) rfl rfl (by simp) rfl ?_
  simp only [c_spec_HallNew]
  push_cast
  have hc := t_specWorldNew (G := G) rs hm
  simp only [XWorld.own] at hc
  refine call_ok hc ?_
  clear hc
  push_cast
  by_cases hok : ringsOkF rs = true
  · simp only [worldF, hok, if_true, worldN, List.map_nil]
    push_cast
    refine cwp_loop (fun i : Nat => ⟨[(2, .pr 10002 0), (6, .pr 10006 0), (7, .val false [.ow (.lit (.int .i64 (i + 1 : Nat)))]), (10002, .mem [.ow (.sl .ow 2 []), .ow (.sl .ow 24 []), .ow (.sl .ow 17 []), .ow (.sl .ow 8 []), .ow (.sl .ow 11 []), .ow (.sl .ow 1 []), .ow (.sl .ow 1 [])]), (10006, .mem [.ow (.sl .ow 2 (rs.map XRing.row)), .ow (.sl .ow 24 ((dsN 5).map XDaemon.row)), .ow (.sl .ow 17 []), .ow (.sl .ow 8 []), .ow (.sl .ow 11 ((csN i).map XCaller.row)), .ow (.sl .ow 1 []), .ow (.sl .ow 1 [])])], []⟩)
      (fun i => i ≤ 4) (fun i => 4 - i) 0 rfl rfl (by omega) ?_
    intro i hle
    push_cast
    refine cnd_dec (fun hlt => ?_) (fun hge => ?_)
    · have hi : i < 4 := by omega
      have e1 : ((i : Int) + 1).tmod 2 = (((i + 1) % 2 : Nat) : Int) := rfl
      have e2 : IntKind.i64.wrap ((((i + 1) % 2 : Nat) : Int) + 1) = (((i + 1) % 2 + 1 : Nat) : Int) := by rw [wrap64 (by omega) (by omega)]; omega
      push_cast
      refine draw_any ?_
      push_cast
      have hc := t_specDecimal (G := G) (i + 1) (by omega) (by omega)
      simp only [Int.natCast_add, Int.natCast_one] at hc
      refine call_ok hc ?_
      clear hc
      push_cast
      have hl : (csN i).length = i := by simp [csN]
      have hs : (bs [99]).size + (byteB (48 + (i + 1))).size ≤ 9223372036854775807 := by rw [byteB_size]; decide
      rw [e1, e2]
      refine ⟨hs, by omega, by kernel_rfl, i + 1, ?_, by omega, by omega⟩
      rw [wrap64 (by omega) (by omega), csN_succ, List.map_append]
      rfl
    · have hi : i = 4 := by omega
      subst hi
      push_cast
      refine cwp_loop (fun i : Nat => ⟨[(2, .pr 10002 0), (6, .pr 10006 0), (8, .val false [.ow (.lit (.int .i64 (i + 1 : Nat)))]), (10002, .mem [.ow (.sl .ow 2 []), .ow (.sl .ow 24 []), .ow (.sl .ow 17 []), .ow (.sl .ow 8 []), .ow (.sl .ow 11 []), .ow (.sl .ow 1 []), .ow (.sl .ow 1 [])]), (10006, .mem [.ow (.sl .ow 2 (rs.map XRing.row)), .ow (.sl .ow 24 ((dsN 5).map XDaemon.row)), .ow (.sl .ow 17 []), .ow (.sl .ow 8 []), .ow (.sl .ow 11 ((csN 4).map XCaller.row)), .ow (.sl .ow 1 ((List.replicate i (XTable.mk [])).map XTable.row)), .ow (.sl .ow 1 ((List.replicate i (0 : Int)).map intR))])], []⟩)
        (fun i => i ≤ 5) (fun i => 5 - i) 0 rfl rfl (by omega) ?_
      intro i hle
      push_cast
      refine cnd_dec (fun hlt => ?_) (fun hge => ?_)
      · have hi : i < 5 := by omega
        push_cast
        simp only [List.length_replicate]
        refine ⟨by omega, by omega, i + 1, ?_, by omega, by omega⟩
        rw [wrap64 (by omega) (by omega)]
        simp only [List.replicate_succ', List.map_append, List.map_cons, List.map_nil]
        rfl
      · have hi : i = 5 := by omega
        subst hi
        push_cast
        simp only [hallF, hok, if_true, hallN, worldN]
        rfl
  · have hok' : ringsOkF rs = false := by simpa using hok
    simp only [worldF, hok']
    push_cast
    simp only [hallF, hok']
    rfl
noncomputable def c_impl_HallNew : ACode := (.seq (.reg false [⟨none, .alloc 2 [.nl 2, .nl 24, .nl 17, .nl 8, .nl 11, .nl 1, .nl 1], []⟩, ⟨none, .tk 3 (.k (.b false)), []⟩] [0, 2, 10002]) (.seq (.reg false [⟨none, .p 9 (.mv (.t 0)), []⟩, ⟨none, .call (some 10) 17 [.rd (.t 9)], []⟩, ⟨none, .p 8 (.mv (.t 10)), []⟩, ⟨none, .ext 11 8 0, []⟩, ⟨none, .ext 12 8 1, []⟩, ⟨none, .alloc 4 [.nl 2, .nl 24, .nl 17, .nl 8], []⟩, ⟨none, .st (.t 4) (.t 11) 4, []⟩, ⟨none, .asg 5 (.t 12), []⟩] [2, 4, 5, 10002, 10004]) (.seq (.seq (.reg false [⟨none, .p 13 (.mv (.t 5)), []⟩, ⟨none, .p 14 (.un .not (.t 13)), []⟩] [2, 4, 14, 10002, 10004]) (.cond (.t 14) (.seq (.reg false [⟨none, .build 15 [.nl 2, .nl 24, .nl 17, .nl 8, .nl 11, .nl 1, .nl 1] [], []⟩, ⟨none, .st (.t 2) (.t 15) 7, []⟩, ⟨none, .tk 3 (.k (.b false)), []⟩] [2, 3, 10002]) .ret) .skip)) (.seq (.reg true [⟨none, .p 16 (.ld (.t 4) 0 4 true), []⟩, ⟨none, .mks 17 (.k (.i .i64 5)) (.k (.i .i64 5)) [.nl 2] 24, []⟩, ⟨none, .mks 18 (.k (.i .i64 5)) (.k (.i .i64 5)) [.i .i64 0] 8, []⟩, ⟨none, .build 19 [.nl 2, .nl 24, .nl 17, .nl 8, .nl 11, .nl 1, .nl 1] [(0, 4, (.t 16)), (5, 1, (.t 17)), (6, 1, (.t 18))], [0, 1, 2]⟩, ⟨none, .alloc 6 [.nl 2, .nl 24, .nl 17, .nl 8, .nl 11, .nl 1, .nl 1], []⟩, ⟨none, .st (.t 6) (.t 19) 7, [4, 3, 0, 1, 2, 3, 4]⟩] [2, 6, 10002, 10006]) (.seq (.seq (.reg false [⟨none, .asg 7 (.k (.i .i64 1)), []⟩] [2, 6, 7, 10002, 10006]) (.block 0 (.loop [2, 6, 7, 10002, 10006] (.seq (.seq (.reg false [⟨none, .p 20 (.mv (.t 7)), []⟩, ⟨none, .p 21 (.bin .leq (.t 20) (.k (.i .i64 4))), []⟩] [2, 6, 7, 21, 10002, 10006]) (.cond (.t 21) .skip (.exit 0 [2, 6, 10002, 10006]))) (.seq (.block 1 (.reg true [⟨none, .p 24 (.fa (.t 6) 0 4), []⟩, ⟨none, .p 25 (.ld (.t 24) 0 1 false), [0]⟩, ⟨none, .p 26 (.mv (.t 7)), []⟩, ⟨none, .p 27 (.bin .rem (.t 26) (.k (.i .i64 2))), [2]⟩, ⟨none, .p 28 (.bin .add (.t 27) (.k (.i .i64 1))), [3]⟩, ⟨none, .build 29 [.i .i64 0, .s emp, .s emp, .b false, .b false, .nl 1] [(0, 1, (.t 28))], [4]⟩, ⟨none, .p 30 (.mv (.t 7)), []⟩, ⟨none, .call (some 31) 18 [.rd (.t 30)], [6]⟩, ⟨none, .p 32 (.bin .add (.k (.s (bs [99]))) (.t 31)), [7]⟩, ⟨none, .build 33 [.s emp, .nl 1, .b false] [(0, 1, (.t 32))], [8]⟩, ⟨none, .build 34 [.i .i64 0, .s emp, .s emp, .b false, .b false, .nl 1, .s emp, .nl 1, .b false, .s emp, .nl 1] [(0, 6, (.t 29)), (6, 3, (.t 33))], [5, 9]⟩, ⟨none, .bsl 35 11 [(.t 34)], [10]⟩, ⟨none, .app 36 (.t 25) (.t 35) 11 168, [1, 11, 7]⟩, ⟨none, .p 37 (.fa (.t 6) 0 4), [0, 1, 2, 3, 4, 5, 6, 7, 8, 9, 10, 11, 12]⟩, ⟨none, .st (.t 37) (.t 36) 1, [13, 12, 12, 0, 1, 2, 3, 4, 5, 6, 7, 8, 9, 10, 11, 12]⟩] [2, 6, 7, 10002, 10006])) (.reg false [⟨none, .p 22 (.mv (.t 7)), []⟩, ⟨none, .p 23 (.bin .add (.t 22) (.k (.i .i64 1))), []⟩, ⟨none, .asg 7 (.t 23), []⟩] [2, 6, 7, 10002, 10006])))))) (.seq (.reg false [⟨none, .p 38 (.ld (.t 6) 0 7 true), []⟩, ⟨none, .st (.t 2) (.t 38) 7, []⟩, ⟨none, .tk 3 (.k (.b true)), []⟩] [2, 3, 10002]) .ret))))))
theorem code_impl_HallNew : ∃ c, Tryd.f7.body = some c ∧ cfit PP 39 c c_impl_HallNew = true := by
  refine ⟨_, (rfl : Tryd.f7.body = some _), ?_⟩
  kernel_rfl
theorem t_implHallNew {G : Glob} (rs : List XRing) (hm : msL XRing.ms rs ≤ 1048576) : FnD PP G 7 [.val false [.vw none [] (.sl .ow 2 (rs.map XRing.row))]] [] [] [.v true (hallF rs).own, .v false [.ow (.lit (.bool (ringsOkF rs)))]] [] [] := by
  obtain ⟨cc, hb, hcf⟩ := code_impl_HallNew
  refine fn_ok (fn := Tryd.f7) (specs := [.c 2 7, .t 3]) (by kernel_rfl) hb (by show (39:Nat) ≤ 10000; omega) hcf (by kernel_rfl) (by show (1:Nat) ≤ 39; omega) (by simp) (by simp) rfl rfl (by simp) rfl ?_
  simp only [c_impl_HallNew]
  push_cast
  have hc := t_implWorldNew (G := G) rs hm
  simp only [XWorld.own] at hc
  refine call_ok hc ?_
  clear hc
  push_cast
  by_cases hok : ringsOkF rs = true
  · simp only [worldF, hok, if_true, worldN, List.map_nil]
    push_cast
    refine draw_any ?_
    push_cast
    refine ⟨by kernel_rfl, ?_⟩
    push_cast
    refine cwp_loop (fun i : Nat => ⟨[(2, .pr 10002 0), (6, .pr 10006 0), (7, .val false [.ow (.lit (.int .i64 (i + 1 : Nat)))]), (10002, .mem [.ow (.sl .ow 2 []), .ow (.sl .ow 24 []), .ow (.sl .ow 17 []), .ow (.sl .ow 8 []), .ow (.sl .ow 11 []), .ow (.sl .ow 1 []), .ow (.sl .ow 1 [])]), (10006, .mem [.ow (.sl .ow 2 (rs.map XRing.row)), .ow (.sl .ow 24 ((dsN 5).map XDaemon.row)), .ow (.sl .ow 17 []), .ow (.sl .ow 8 []), .ow (.sl .ow 11 ((csN i).map XCaller.row)), .ow (.sl .ow 1 ((List.replicate 5 (XTable.mk [])).map XTable.row)), .ow (.sl .ow 1 ((List.replicate 5 (0 : Int)).map intR))])], []⟩)
      (fun i => i ≤ 4) (fun i => 4 - i) 0 rfl rfl (by omega) ?_
    intro i hle
    push_cast
    refine cnd_dec (fun hlt => ?_) (fun hge => ?_)
    · have hi : i < 4 := by omega
      have e1 : ((i : Int) + 1).tmod 2 = (((i + 1) % 2 : Nat) : Int) := rfl
      have e2 : IntKind.i64.wrap ((((i + 1) % 2 : Nat) : Int) + 1) = (((i + 1) % 2 + 1 : Nat) : Int) := by rw [wrap64 (by omega) (by omega)]; omega
      push_cast
      refine draw_any ?_
      push_cast
      have hc := t_implDecimal (G := G) (i + 1) (by omega)
      simp only [Int.natCast_add, Int.natCast_one] at hc
      refine call_ok hc ?_
      clear hc
      push_cast
      have hl : (csN i).length = i := by simp [csN]
      have hs : (bs [99]).size + (byteB (48 + (i + 1))).size ≤ 9223372036854775807 := by rw [byteB_size]; decide
      rw [e1, e2]
      refine ⟨hs, by omega, by kernel_rfl, i + 1, ?_, by omega, by omega⟩
      rw [wrap64 (by omega) (by omega), csN_succ, List.map_append]
      rfl
    · have hi : i = 4 := by omega
      subst hi
      push_cast
      simp only [hallF, hok, if_true, hallN, worldN]
      rfl
  · have hok' : ringsOkF rs = false := by simpa using hok
    simp only [worldF, hok']
    push_cast
    simp only [hallF, hok']
    rfl
end Go.Eng

set_option maxRecDepth 100000
namespace Go.Eng
open Go.Proofs
theorem hallF_ms (rs : List XRing) (hm : msL XRing.ms rs ≤ 1048576) : (hallF rs).ms ≤ 2000000 := by
  unfold hallF
  split
  · have h1 : msL XDaemon.ms (dsN 5) = 5 := by rfl
    have h2 : msL XCaller.ms (csN 4) = 12 := by rfl
    have h3 : msL XTable.ms (List.replicate 5 (XTable.mk [])) = 5 := by rfl
    simp only [XHall.ms, hallN, worldN, XWorld.ms, h1, h2, h3]
    simp only [msL, List.length_nil, List.map_nil, List.sum_nil, List.length_replicate] at hm ⊢
    omega
  · have : XHall.zero.ms = 0 := rfl
    omega
noncomputable def c_laws_FnExactHallNew : ACode := (.seq (.reg false [⟨none, .tk 2 (.k (.b false)), []⟩] [0]) (.seq (.reg false [⟨none, .asg 3 (.k (.i .i64 1048576)), []⟩] [0, 3]) (.seq (.reg false [⟨none, .p 14 (.mv (.t 0)), []⟩, ⟨none, .p 15 (.mv (.t 3)), []⟩, ⟨none, .call (some 16) 4 [.rd (.t 14), .rd (.t 15)], []⟩, ⟨none, .asg 3 (.t 16), []⟩] [0, 3]) (.seq (.seq (.reg false [⟨none, .p 17 (.mv (.t 3)), []⟩, ⟨none, .p 18 (.bin .lss (.t 17) (.k (.i .i64 0))), []⟩] [0, 18]) (.cond (.t 18) (.seq (.reg false [⟨none, .tk 2 (.k (.b true)), []⟩] [2]) .ret) .skip)) (.seq (.reg false [⟨none, .p 20 (.mv (.t 0)), []⟩, ⟨none, .call (some 21) 6 [.rd (.t 20)], []⟩, ⟨none, .call (some 22) 5 [.rd (.t 21)], []⟩, ⟨none, .p 19 (.mv (.t 22)), []⟩, ⟨none, .ext 23 19 0, []⟩, ⟨none, .ext 24 19 1, []⟩, ⟨none, .alloc 4 [.nl 2, .nl 24, .nl 17, .nl 8, .nl 11, .nl 1, .nl 1], []⟩, ⟨none, .st (.t 4) (.t 23) 7, []⟩, ⟨none, .asg 5 (.t 24), []⟩] [0, 4, 5, 10004]) (.seq (.reg false [⟨none, .p 25 (.mv (.t 0)), []⟩, ⟨none, .call (some 26) 6 [.rd (.t 25)], []⟩, ⟨none, .asg 6 (.t 26), []⟩] [0, 4, 5, 6, 10004]) (.seq (.reg false [⟨none, .p 28 (.mv (.t 6)), []⟩, ⟨none, .call (some 29) 7 [.rd (.t 28)], []⟩, ⟨none, .p 27 (.mv (.t 29)), []⟩, ⟨none, .ext 30 27 0, []⟩, ⟨none, .ext 31 27 1, []⟩, ⟨none, .alloc 7 [.nl 2, .nl 24, .nl 17, .nl 8, .nl 11, .nl 1, .nl 1], []⟩, ⟨none, .st (.t 7) (.t 30) 7, []⟩, ⟨none, .asg 8 (.t 31), []⟩] [0, 4, 5, 6, 7, 8, 10004, 10007]) (.seq (.seq (.reg false [⟨none, .p 32 (.ld (.t 7) 0 7 true), []⟩, ⟨none, .p 33 (.ld (.t 4) 0 7 true), []⟩, ⟨none, .call (some 34) 8 [.rd (.t 32), .rd (.t 33)], []⟩, ⟨none, .p 35 (.un .not (.t 34)), []⟩, ⟨none, .p 36 (.mv (.t 35)), []⟩, ⟨some (36, false), .p 37 (.mv (.t 8)), []⟩, ⟨some (36, false), .p 38 (.mv (.t 5)), []⟩, ⟨some (36, false), .p 39 (.beq true (.t 37) (.t 38)), []⟩, ⟨none, .p 40 (.pick (.t 36) (.k (.b true)) (.t 39)), []⟩] [0, 4, 5, 6, 7, 8, 40, 10004, 10007]) (.cond (.t 40) (.seq (.reg false [⟨none, .tk 2 (.k (.b false)), []⟩] [2]) .ret) .skip)) (.seq (.seq (.reg false [⟨none, .p 41 (.mv (.t 6)), []⟩, ⟨none, .p 42 (.mv (.t 0)), []⟩, ⟨none, .call (some 43) 6 [.rd (.t 42)], []⟩, ⟨none, .call (some 44) 9 [.rd (.t 41), .rd (.t 43)], []⟩, ⟨none, .p 45 (.un .not (.t 44)), []⟩] [0, 4, 5, 6, 7, 8, 45, 10004, 10007]) (.cond (.t 45) (.seq (.reg false [⟨none, .tk 2 (.k (.b false)), []⟩] [2]) .ret) .skip)) (.seq (.reg false [⟨none, .asg 9 (.k (.i .i64 1)), []⟩] [0, 4, 5, 6, 7, 8, 9, 10004, 10007]) (.seq (.reg false [⟨none, .p 46 (.mv (.t 6)), []⟩, ⟨none, .p 47 (.mv (.t 9)), []⟩, ⟨none, .call (some 48) 10 [.ln (.t 46), .rd (.t 47)], []⟩, ⟨none, .asg 9 (.t 48), []⟩] [0, 4, 5, 7, 8, 9, 10004, 10007]) (.seq (.seq (.reg false [⟨none, .p 49 (.mv (.t 9)), []⟩, ⟨none, .p 50 (.bin .lss (.t 49) (.k (.i .i64 0))), []⟩, ⟨none, .p 51 (.mv (.t 50)), []⟩, ⟨some (51, false), .p 52 (.ld (.t 7) 0 7 true), []⟩, ⟨some (51, false), .p 53 (.ld (.t 4) 0 7 true), []⟩, ⟨some (51, false), .call (some 54) 8 [.rd (.t 52), .rd (.t 53)], []⟩, ⟨some (51, false), .p 55 (.un .not (.t 54)), []⟩, ⟨none, .p 56 (.pick (.t 51) (.k (.b true)) (.t 55)), []⟩, ⟨none, .p 57 (.mv (.t 56)), []⟩, ⟨some (57, false), .p 58 (.mv (.t 8)), []⟩, ⟨some (57, false), .p 59 (.mv (.t 5)), []⟩, ⟨some (57, false), .p 60 (.beq true (.t 58) (.t 59)), []⟩, ⟨none, .p 61 (.pick (.t 57) (.k (.b true)) (.t 60)), []⟩] [0, 4, 5, 7, 61, 10004, 10007]) (.cond (.t 61) (.seq (.reg false [⟨none, .tk 2 (.k (.b false)), []⟩] [2]) .ret) .skip)) (.seq (.reg false [⟨none, .asg 10 (.k (.i .i64 1)), []⟩] [0, 4, 5, 7, 10, 10004, 10007]) (.seq (.reg false [⟨none, .p 62 (.ld (.t 7) 0 7 true), []⟩, ⟨none, .p 63 (.mv (.t 10)), []⟩, ⟨none, .call (some 64) 11 [.ln (.t 62), .rd (.t 63)], []⟩, ⟨none, .asg 10 (.t 64), []⟩] [0, 4, 5, 7, 10, 10004, 10007]) (.seq (.reg false [⟨none, .asg 11 (.k (.i .i64 1)), []⟩] [0, 4, 5, 7, 10, 11, 10004, 10007]) (.seq (.reg false [⟨none, .p 65 (.ld (.t 7) 0 7 true), []⟩, ⟨none, .p 66 (.mv (.t 11)), []⟩, ⟨none, .call (some 67) 12 [.rd (.t 65), .rd (.t 66)], []⟩, ⟨none, .asg 11 (.t 67), []⟩] [0, 4, 5, 7, 10, 11, 10004, 10007]) (.seq (.seq (.reg false [⟨none, .p 68 (.mv (.t 11)), []⟩, ⟨none, .p 69 (.bin .lss (.t 68) (.k (.i .i64 0))), []⟩] [0, 4, 5, 7, 10, 11, 69, 10004, 10007]) (.cond (.t 69) (.seq (.reg false [⟨none, .tk 2 (.k (.b false)), []⟩] [2]) .ret) .skip)) (.seq (.seq (.reg false [⟨none, .p 70 (.mv (.t 11)), []⟩, ⟨none, .p 71 (.mv (.t 10)), []⟩, ⟨none, .p 72 (.bin .neq (.t 70) (.t 71)), []⟩] [0, 4, 5, 7, 10, 72, 10004, 10007]) (.cond (.t 72) (.seq (.reg false [⟨none, .tk 2 (.k (.b false)), []⟩] [2]) .ret) .skip)) (.seq (.reg false [⟨none, .p 74 (.mv (.t 0)), []⟩, ⟨none, .call (some 75) 6 [.rd (.t 74)], []⟩, ⟨none, .call (some 76) 7 [.rd (.t 75)], []⟩, ⟨none, .p 73 (.mv (.t 76)), []⟩, ⟨none, .ext 77 73 0, []⟩, ⟨none, .ext 78 73 1, []⟩, ⟨none, .alloc 12 [.nl 2, .nl 24, .nl 17, .nl 8, .nl 11, .nl 1, .nl 1], []⟩, ⟨none, .st (.t 12) (.t 77) 7, []⟩, ⟨none, .asg 13 (.t 78), []⟩] [4, 5, 7, 10, 12, 13, 10004, 10007, 10012]) (.seq (.seq (.reg false [⟨none, .p 79 (.ld (.t 12) 0 7 true), []⟩, ⟨none, .p 80 (.ld (.t 4) 0 7 true), []⟩, ⟨none, .call (some 81) 8 [.rd (.t 79), .rd (.t 80)], []⟩, ⟨none, .p 82 (.un .not (.t 81)), []⟩, ⟨none, .p 83 (.mv (.t 82)), []⟩, ⟨some (83, false), .p 84 (.mv (.t 13)), []⟩, ⟨some (83, false), .p 85 (.mv (.t 5)), []⟩, ⟨some (83, false), .p 86 (.beq true (.t 84) (.t 85)), []⟩, ⟨none, .p 87 (.pick (.t 83) (.k (.b true)) (.t 86)), []⟩] [7, 10, 87, 10007]) (.cond (.t 87) (.seq (.reg false [⟨none, .tk 2 (.k (.b false)), []⟩] [2]) .ret) .skip)) (.seq (.reg false [⟨none, .asg 11 (.k (.i .i64 1)), []⟩] [7, 10, 11, 10007]) (.seq (.reg false [⟨none, .p 88 (.ld (.t 7) 0 7 true), []⟩, ⟨none, .p 89 (.mv (.t 11)), []⟩, ⟨none, .call (some 90) 12 [.rd (.t 88), .rd (.t 89)], []⟩, ⟨none, .asg 11 (.t 90), []⟩] [10, 11]) (.seq (.seq (.reg false [⟨none, .p 91 (.mv (.t 11)), []⟩, ⟨none, .p 92 (.bin .lss (.t 91) (.k (.i .i64 0))), []⟩] [10, 11, 92]) (.cond (.t 92) (.seq (.reg false [⟨none, .tk 2 (.k (.b false)), []⟩] [2]) .ret) .skip)) (.seq (.seq (.reg false [⟨none, .p 93 (.mv (.t 11)), []⟩, ⟨none, .p 94 (.mv (.t 10)), []⟩, ⟨none, .p 95 (.bin .neq (.t 93) (.t 94)), []⟩] [95]) (.cond (.t 95) (.seq (.reg false [⟨none, .tk 2 (.k (.b false)), []⟩] [2]) .ret) .skip)) (.seq (.reg false [⟨none, .tk 2 (.k (.b true)), []⟩] [2]) .ret)))))))))))))))))))))))))
theorem code_laws_FnExactHallNew : ∃ c, Tryd.f3.body = some c ∧ cfit PP 96 c c_laws_FnExactHallNew = true := by
  refine ⟨_, (rfl : Tryd.f3.body = some _), ?_⟩
  kernel_rfl
theorem t_law {G : Glob} (rs : List XRing) (hm : msL XRing.ms rs ≤ 1048576) : FnD PP G 3 [.val false [.vw none [] (.sl .ow 2 (rs.map XRing.row))]] [] [] [.v false [.ow (.lit (.bool true))]] [] [] := by
  obtain ⟨cc, hb, hcf⟩ := code_laws_FnExactHallNew
  refine fn_ok (fn := Tryd.f3) (specs := [.t 2]) (by kernel_rfl) hb (by show (96:Nat) ≤ 10000; omega) hcf (by kernel_rfl) (by show (1:Nat) ≤ 96; omega) (by simp) (by simp) rfl rfl (by simp) rfl ?_
  simp only [c_laws_FnExactHallNew]
  push_cast
  have hc := t_szRingS (G := G) rs 1048576 (by omega) (by omega)
  refine call_ok hc ?_
  clear hc
  push_cast
  refine cnd_dec (fun h => by omega) (fun _ => ?_)
  push_cast
  have hto := t_toRingS (G := G) rs hm
  refine call_ok hto ?_
  push_cast
  have hsp := t_specHallNew (G := G) rs hm
  have him := t_implHallNew (G := G) rs hm
  have hb := hallF_ms rs hm
  generalize hallF rs = h at hsp him hb
  generalize ringsOkF rs = ok at hsp him
  simp only [XHall.own] at hsp him
  refine call_ok hsp ?_
  clear hsp
  push_cast
  refine call_ok hto ?_
  push_cast
  refine call_ok him ?_
  push_cast
  have heq := t_eqHall (G := G) h h
  simp only [XHall.vw] at heq
  refine call_ok heq ?_
  push_cast [bne_self_eq_false]
  refine call_ok hto ?_
  push_cast
  refine call_ok (t_eqRingS rs rs) ?_
  push_cast
  have hmr := t_markRingS (G := G) rs 1 (by have := cntL_le XRing.ct XRing.ms ct_Ring rs; omega)
  refine call_ok hmr ?_
  push_cast [mkL_len]
  simp (disch := omega) only [dec_nneg]
  push_cast
  refine call_ok heq ?_
  push_cast [bne_self_eq_false]
  have hmk := t_markHall (G := G) h 1 (by have := vct_Hall h; omega)
  simp only [XHall.el, XHall.vmk, XHall.vct] at hmk
  refine call_ok hmk ?_
  push_cast [mkL_len]
  have hhd := t_heldHall (G := G) h 1 (by have := vct_Hall h; omega)
  simp only [XHall.vw, XHall.vmk, XHall.vct] at hhd
  refine call_ok hhd ?_
  push_cast
  refine cnd_dec (fun h => by omega) (fun _ => ?_)
  push_cast
  refine call_ok hto ?_
  push_cast
  refine call_ok him ?_
  push_cast
  refine call_ok heq ?_
  push_cast [bne_self_eq_false]
  refine call_ok hhd ?_
  push_cast
  refine cnd_dec (fun h => by omega) (fun _ => ?_)
  push_cast
end Go.Eng
