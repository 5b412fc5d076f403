/- Harness: strings. -/
import Derived.Test.YtpgdmpihbfmnfaaGreatProg
import Derived.Test.YtpgdmpihbfmnfaaGreatE3
set_option linter.unusedSimpArgs false
set_option linter.unusedVariables false
namespace Go.Eng
open Go.Proofs
noncomputable abbrev PP := Tryz.prog
def strR (s : ByteArray) : Row := [.lit (.string s)]
noncomputable def c_laws_markText : ACode := (.seq (.reg false [⟨none, .tk 2 (.k (.s emp)), []⟩] [0]) (.seq (.seq (.reg false [⟨none, .p 4 (.mv (.t 0)), []⟩, ⟨none, .p 5 (.bin .leq (.t 4) (.k (.i .i64 0))), []⟩] [0, 5]) (.cond (.t 5) (.seq (.reg false [⟨none, .tk 2 (.k (.s (bs [109,48]))), []⟩] [2]) .ret) .skip)) (.seq (.reg false [⟨none, .asg 3 (.k (.s emp)), []⟩] [0, 3]) (.seq (.block 0 (.loop [0, 3] (.seq (.seq (.reg false [⟨none, .p 6 (.mv (.t 0)), []⟩, ⟨none, .p 7 (.bin .gtr (.t 6) (.k (.i .i64 0))), []⟩] [0, 3, 7]) (.cond (.t 7) .skip (.exit 0 [3]))) (.block 1 (.seq (.reg false [⟨none, .p 8 (.mv (.t 0)), []⟩, ⟨none, .p 9 (.bin .rem (.t 8) (.k (.i .i64 10))), []⟩, ⟨none, .p 10 (.bin .add (.k (.i .i64 48)) (.t 9)), []⟩, ⟨none, .p 11 (.conv .u8 (.t 10)), []⟩, ⟨none, .bsl 12 1 [(.t 11)], []⟩, ⟨none, .p 13 (.b2s (.t 12)), []⟩, ⟨none, .p 14 (.mv (.t 3)), []⟩, ⟨none, .p 15 (.bin .add (.t 13) (.t 14)), []⟩, ⟨none, .asg 3 (.t 15), []⟩] [0, 3]) (.reg false [⟨none, .p 16 (.mv (.t 0)), []⟩, ⟨none, .p 17 (.bin .quo (.t 16) (.k (.i .i64 10))), []⟩, ⟨none, .asg 0 (.t 17), []⟩] [0, 3])))))) (.seq (.reg false [⟨none, .p 18 (.mv (.t 3)), []⟩, ⟨none, .p 19 (.bin .add (.k (.s (bs [109]))) (.t 18)), []⟩, ⟨none, .tk 2 (.t 19), []⟩] [2]) .ret)))))
theorem code_laws_markText : ∃ c, Tryz.f40.body = some c ∧ cfit PP 20 c c_laws_markText = true := by
  refine ⟨_, (rfl : Tryz.f40.body = some _), ?_⟩
  kernel_rfl
def byteB (n : Nat) : ByteArray := ⟨#[UInt8.ofNat n]⟩
def digsB : Nat → ByteArray → ByteArray
  | 0, out => out
  | k + 1, out => digsB ((k + 1) / 10) (byteB (48 + (k + 1) % 10) ++ out)
termination_by k => k
decreasing_by omega
def markB (k : Nat) : ByteArray := if k = 0 then bs [109, 48] else bs [109] ++ digsB k emp
theorem byteB_size (n : Nat) : (byteB n).size = 1 := rfl
theorem digsB_pos {k : Nat} (h : 0 < k) (out : ByteArray) : digsB k out = digsB (k / 10) (byteB (48 + k % 10) ++ out) := by
  cases k with
  | zero => omega
  | succ k => rw [digsB]
theorem t_markText {G : Glob} (k : Nat) (hk : k < 2^62) : FnD PP G 40 [.val false [.ow (.lit (.int .i64 k))]] [] [] [.v false [.ow (.lit (.string (markB k)))]] [] [] := by
  obtain ⟨cc, hb, hcf⟩ := code_laws_markText
  refine fn_ok (fn := Tryz.f40) (specs := [.t 2]) (by kernel_rfl) hb (by show (20:Nat) ≤ 10000; omega) hcf (by kernel_rfl) (by show (1:Nat) ≤ 20; omega) (by simp) (by simp) rfl rfl (by simp) rfl ?_
  simp only [c_laws_markText]
  simp only [push_cast, ↓reduceIte, Nat.reduceEqDiff, Nat.reduceLT, Nat.reduceLeDiff, Nat.reduceAdd, Nat.reduceMul, Nat.reduceSub, Nat.reduceDiv, Nat.reduceMod, Nat.reduceBEq, reduceCtorEq, Int.toNat_natCast, Int.reduceToNat, Option.some.injEq, Nat.le_refl, List.take_length]
  refine cnd_dec (fun h0 => ?_) (fun h0 => ?_)
  · simp only [push_cast, ↓reduceIte, Nat.reduceEqDiff, Nat.reduceLT, Nat.reduceLeDiff, Nat.reduceAdd, Nat.reduceMul, Nat.reduceSub, Nat.reduceDiv, Nat.reduceMod, Nat.reduceBEq, reduceCtorEq, Int.toNat_natCast, Int.reduceToNat, Option.some.injEq, Nat.le_refl, List.take_length]
    have : k = 0 := by omega
    subst this
    rfl
  · simp only [push_cast, ↓reduceIte, Nat.reduceEqDiff, Nat.reduceLT, Nat.reduceLeDiff, Nat.reduceAdd, Nat.reduceMul, Nat.reduceSub, Nat.reduceDiv, Nat.reduceMod, Nat.reduceBEq, reduceCtorEq, Int.toNat_natCast, Int.reduceToNat, Option.some.injEq, Nat.le_refl, List.take_length]
    refine cwp_loop (fun q : Nat × ByteArray => ⟨[(0, .val false [.ow (.lit (.int .i64 q.1))]), (3, .val false [.ow (.lit (.string q.2))])], []⟩)
      (fun q => q.1 + q.2.size ≤ k ∧ digsB q.1 q.2 = digsB k emp) (fun q => q.1) (k, emp) rfl rfl ⟨by simp, rfl⟩ ?_
    rintro ⟨j, out⟩ ⟨h1, h2⟩
    simp only at h1 h2
    simp only [push_cast, ↓reduceIte, Nat.reduceEqDiff, Nat.reduceLT, Nat.reduceLeDiff, Nat.reduceAdd, Nat.reduceMul, Nat.reduceSub, Nat.reduceDiv, Nat.reduceMod, Nat.reduceBEq, reduceCtorEq, Int.toNat_natCast, Int.reduceToNat, Option.some.injEq, Nat.le_refl, List.take_length]
    refine cnd_dec (fun hp => ?_) (fun hp => ?_)
    · simp only [push_cast, ↓reduceIte, Nat.reduceEqDiff, Nat.reduceLT, Nat.reduceLeDiff, Nat.reduceAdd, Nat.reduceMul, Nat.reduceSub, Nat.reduceDiv, Nat.reduceMod, Nat.reduceBEq, reduceCtorEq, Int.toNat_natCast, Int.reduceToNat, Option.some.injEq, Nat.le_refl, List.take_length]
      have hj : 0 < j := by omega
      have e1 : (j : Int).tmod 10 = ((j % 10 : Nat) : Int) := rfl
      have e2 : (j : Int).tdiv 10 = ((j / 10 : Nat) : Int) := rfl
      have e3 : IntKind.i64.wrap (48 + ((j % 10 : Nat) : Int)) = ((48 + j % 10 : Nat) : Int) := by rw [wrap64 (by omega) (by omega)]; omega
      have e4 : IntKind.u8.wrap ((48 + j % 10 : Nat) : Int) = ((48 + j % 10 : Nat) : Int) := by rw [IntKind.wrap_u8]; omega
      rw [e1, e2, e3, e4]
      have e5 : (ByteArray.mk #[UInt8.ofNat ((48 + j % 10 : Nat) : Int).toNat]) = byteB (48 + j % 10) := by
        rw [Int.toNat_natCast]; rfl
      rw [e5]
      refine ⟨by simp, by rw [byteB_size]; omega, by simp, (j / 10, byteB (48 + j % 10) ++ out), ?_, ⟨?_, ?_⟩, ?_⟩
      · rw [wrap64 (by omega) (by omega)]
      · show j / 10 + (byteB (48 + j % 10) ++ out).size ≤ k
        rw [ByteArray.size_append, byteB_size]; omega
      · show digsB (j / 10) (byteB (48 + j % 10) ++ out) = digsB k emp
        rw [← digsB_pos hj, h2]
      · show j / 10 < j
        omega
    · simp only [push_cast, ↓reduceIte, Nat.reduceEqDiff, Nat.reduceLT, Nat.reduceLeDiff, Nat.reduceAdd, Nat.reduceMul, Nat.reduceSub, Nat.reduceDiv, Nat.reduceMod, Nat.reduceBEq, reduceCtorEq, Int.toNat_natCast, Int.reduceToNat, Option.some.injEq, Nat.le_refl, List.take_length]
      have hj : j = 0 := by omega
      subst hj
      have h3 : out = digsB k emp := by rw [← h2, digsB]
      refine ⟨?_, ?_⟩
      · have : (bs [109]).size = 1 := rfl
        rw [this]; omega
      · have : k ≠ 0 := by omega
        simp [markB, this, h3]
end Go.Eng

set_option maxRecDepth 100000
namespace Go.Eng
open Go.Proofs

def intR (n : Int) : Row := [.lit (.int .i64 n)]
theorem flat_int (xs : List Int) : ((xs.map intR).all fun r => r.all T.flat) = true := flat_all _ (fun _ => rfl) xs
theorem flat_str (xs : List ByteArray) : ((xs.map strR).all fun r => r.all T.flat) = true := flat_all _ (fun _ => rfl) xs
attribute [push_cast] flat_int flat_str
def msL {α : Type} (f : α → Nat) (xs : List α) : Nat := xs.length + (xs.map f).sum
def cntL {α : Type} (f : α → Nat) (xs : List α) : Nat := (xs.map f).sum
def mkL {α : Type} (m : Nat → α → α) (c : α → Nat) : Nat → List α → List α
  | _, [] => []
  | k, a :: l => m k a :: mkL m c (k + c a) l
theorem sum_take {α : Type} (f : α → Nat) (xs : List α) (i : Nat) (h : i < xs.length) : ((xs.take (i + 1)).map f).sum = ((xs.take i).map f).sum + f xs[i] := by
  rw [List.take_succ_eq_append_getElem h, List.map_append, List.sum_append]; simp
theorem copy_step {α : Type} (z : α) {xs : List α} {i : Nat} (hi : i < xs.length) : (xs.take i ++ List.replicate (xs.length - i) z).set i xs[i] = xs.take (i + 1) ++ List.replicate (xs.length - (i + 1)) z := by
  have hl : (xs.take i).length = i := by simp; omega
  rw [List.set_append_right _ _ (by omega), hl, Nat.sub_self, show xs.length - i = (xs.length - (i + 1)) + 1 by omega, List.replicate_succ, List.set_cons_zero, List.take_succ_eq_append_getElem hi, List.append_assoc]
  rfl
/-- A whole row is written. -/
theorem modf {α : Type} (f : α → Row) (l : List α) (i : Nat) (x : α) {g : Row → Row} (hg : ∀ a, g (f a) = f x) : (l.map f).modify i g = (l.set i x).map f := by
  apply List.ext_getElem?
  intro j
  rw [List.getElem?_modify, List.getElem?_map, List.getElem?_map, List.getElem?_set]
  by_cases h : i = j
  · subst h
    by_cases h2 : i < l.length
    · simp [h2, hg]
    · simp [h2]
  · simp only [if_neg h]
    cases l[j]? <;> rfl
theorem sum_le {α : Type} (f : α → Nat) (xs : List α) (i : Nat) : ((xs.take i).map f).sum ≤ (xs.map f).sum := by
  have h : (xs.map f).sum = ((xs.take i).map f).sum + ((xs.drop i).map f).sum := by
    rw [← List.sum_append, ← List.map_append, List.take_append_drop]
  omega
theorem cnt_len {α : Type} (xs : List α) : cntL (fun _ => 1) xs = xs.length := by
  induction xs with
  | nil => rfl
  | cons a l ih => simp only [cntL, List.map_cons, List.sum_cons, List.length_cons] at ih ⊢; omega
theorem cnt1_le (xs : List Int) : cntL (fun _ => 1) xs ≤ 64 * xs.length := by
  have : cntL (fun _ : Int => 1) xs = xs.length := by
    induction xs with
    | nil => rfl
    | cons a l ih => simp only [cntL, List.map_cons, List.sum_cons, List.length_cons] at ih ⊢; omega
  omega
theorem cnts_le (xs : List ByteArray) : cntL (fun _ => 1) xs ≤ 64 * msL ByteArray.size xs := by
  have : cntL (fun _ : ByteArray => 1) xs = xs.length := by
    induction xs with
    | nil => rfl
    | cons a l ih => simp only [cntL, List.map_cons, List.sum_cons, List.length_cons] at ih ⊢; omega
  unfold msL; omega
theorem cntL_le {α : Type} (c m : α → Nat) (h : ∀ a, c a ≤ 64 * (m a + 1)) (xs : List α) : cntL c xs ≤ 64 * msL m xs := by
  induction xs with
  | nil => simp [cntL]
  | cons a l ih =>
    have := h a
    simp only [cntL, msL, List.map_cons, List.sum_cons, List.length_cons] at ih ⊢
    omega
theorem mkL_len {α : Type} (m : Nat → α → α) (c : α → Nat) (xs : List α) : ∀ k, (mkL m c k xs).length = xs.length := by
  induction xs with
  | nil => intro k; rfl
  | cons a l ih => intro k; simp only [mkL, List.length_cons, ih]
theorem mkL_app {α : Type} (m : Nat → α → α) (c : α → Nat) (xs ys : List α) : ∀ k, mkL m c k (xs ++ ys) = mkL m c k xs ++ mkL m c (k + cntL c xs) ys := by
  induction xs with
  | nil => intro k; simp [mkL, cntL]
  | cons a l ih => intro k; simp [mkL, cntL, ih, Nat.add_assoc]
theorem mark_step {α : Type} (f : α → Row) (m : Nat → α → α) (c : α → Nat) (xs : List α) (k i : Nat) (hi : i < xs.length) :
    ((mkL m c k (xs.take i) ++ xs.drop i).map f).set i (f (m (k + cntL c (xs.take i)) xs[i])) = (mkL m c k (xs.take (i + 1)) ++ xs.drop (i + 1)).map f := by
  have hl : (mkL m c k (xs.take i)).length = i := by rw [mkL_len]; simp; omega
  rw [← List.map_set, List.set_append_right _ _ (by omega), hl, Nat.sub_self, List.drop_eq_getElem_cons hi, List.set_cons_zero, List.take_succ_eq_append_getElem hi, mkL_app]
  simp [mkL]
theorem mark_at {α : Type} (f : α → Row) (m : Nat → α → α) (c : α → Nat) (xs : List α) (k i : Nat) (hi : i < xs.length) :
    ((mkL m c k (xs.take i) ++ xs.drop i).map f).set i (f xs[i]) = (mkL m c k (xs.take i) ++ xs.drop i).map f := by
  have hl : (mkL m c k (xs.take i)).length = i := by rw [mkL_len]; simp; omega
  rw [← List.map_set, List.set_append_right _ _ (by omega), hl, Nat.sub_self, List.drop_eq_getElem_cons hi, List.set_cons_zero]
theorem cnt_step {α : Type} (c : α → Nat) (xs : List α) (k i : Nat) (hi : i < xs.length) : k + cntL c (xs.take (i + 1)) = (k + cntL c (xs.take i)) + c xs[i] := by
  have := sum_take c xs i hi
  unfold cntL; omega
theorem cnt_le {α : Type} (c : α → Nat) (xs : List α) (k i : Nat) (hi : i < xs.length) : (k + cntL c (xs.take i)) + c xs[i] ≤ k + cntL c xs := by
  have h1 := sum_take c xs i hi
  have h2 := sum_le c xs (i + 1)
  unfold cntL; omega
theorem mkL_get {α : Type} (m : Nat → α → α) (c : α → Nat) (xs : List α) (k i : Nat) (hi : i < xs.length) (h2 : i < (mkL m c k xs).length) : (mkL m c k xs)[i] = m (k + cntL c (xs.take i)) xs[i] := by
  have h := mkL_app m c (xs.take i) (xs.drop i) k
  rw [List.take_append_drop] at h
  have hl : (mkL m c k (xs.take i)).length = i := by rw [mkL_len]; simp; omega
  have : (mkL m c k xs)[i]? = some (m (k + cntL c (xs.take i)) xs[i]) := by
    rw [h, List.getElem?_append_right (by omega), hl, Nat.sub_self, List.drop_eq_getElem_cons hi]
    rfl
  rw [List.getElem?_eq_getElem h2] at this
  exact Option.some.inj this
theorem getD_set_eq {α : Type} {l : List α} {i : Nat} (h : i < l.length) {r d : α} : (l.set i r).getD i d = r := by
  rw [List.getD_eq_getElem?_getD, List.getElem?_set_self h]; rfl
theorem getq_set_eq {α : Type} {l : List α} {i : Nat} (h : i < l.length) {r : α} : (l.set i r)[i]? = some r := List.getElem?_set_self h
theorem set_modify {α : Type} {l : List α} {i : Nat} {r : α} {g : α → α} : (l.set i r).modify i g = l.set i (g r) := by
  apply List.ext_getElem?
  intro j
  rw [List.getElem?_modify, List.getElem?_set, List.getElem?_set]
  by_cases h : i = j
  · subst h
    by_cases h2 : i < l.length <;> simp [h2]
  · simp [if_neg h]
theorem wrapN {n : Nat} (h : n < 4611686018427387904) : IntKind.i64.wrap ((n : Int) + 1) = ((n + 1 : Nat) : Int) := by
  rw [wrap64 (by omega) (by omega)]; omega
theorem tmod3 (n : Nat) : ((n : Int).tmod 3 = 0) = (n % 3 = 0) := by
  have : (n : Int).tmod 3 = ((n % 3 : Nat) : Int) := rfl
  rw [this]; simp; omega
theorem sum_mem {α : Type} (f : α → Nat) (xs : List α) (i : Nat) (h : i < xs.length) : f xs[i] ≤ (xs.map f).sum := by
  have := sum_take f xs i h
  have := sum_le f xs (i + 1)
  omega
structure XReader where
  Rest : ByteArray
  Bad : Bool
  deriving DecidableEq
def XReader.row (a : XReader) : Row := [.lit (.string a.Rest), .lit (.bool a.Bad)]
def XReader.vw (a : XReader) : List Cl := [.ow (.lit (.string a.Rest)), .ow (.lit (.bool a.Bad))]
def XReader.own (a : XReader) : List Cl := [.ow (.lit (.string a.Rest)), .ow (.lit (.bool a.Bad))]
def XReader.ms (a : XReader) : Nat := a.Rest.size
def XReader.zero : XReader := ⟨emp, false⟩
def XReader.ct (a : XReader) : Nat := 1 + 1
def XReader.mrk (k : Nat) (a : XReader) : XReader := ⟨(markB (k)), (decide (((k + 1 : Nat) : Int).tmod 3 = 0))⟩
theorem ct_Reader (a : XReader) : a.ct ≤ 64 * (a.ms + 1) := by
  simp only [XReader.ct, XReader.ms]
  omega
theorem flat_Reader (xs : List XReader) : ((xs.map XReader.row).all fun r => r.all T.flat) = true := flat_all _ (fun _ => rfl) xs
attribute [push_cast] flat_Reader
structure XItem where
  Seq : Int
  From : Int
  Level : Int
  Text : ByteArray
  deriving DecidableEq
def XItem.row (a : XItem) : Row := [.lit (.int .i64 a.Seq), .lit (.int .i64 a.From), .lit (.int .i64 a.Level), .lit (.string a.Text)]
def XItem.vw (a : XItem) : List Cl := [.ow (.lit (.int .i64 a.Seq)), .ow (.lit (.int .i64 a.From)), .ow (.lit (.int .i64 a.Level)), .ow (.lit (.string a.Text))]
def XItem.own (a : XItem) : List Cl := [.ow (.lit (.int .i64 a.Seq)), .ow (.lit (.int .i64 a.From)), .ow (.lit (.int .i64 a.Level)), .ow (.lit (.string a.Text))]
def XItem.ms (a : XItem) : Nat := a.Text.size
def XItem.zero : XItem := ⟨0, 0, 0, emp⟩
def XItem.ct (a : XItem) : Nat := 1 + 1 + 1 + 1
def XItem.mrk (k : Nat) (a : XItem) : XItem := ⟨((k : Nat) : Int), ((k + 1 : Nat) : Int), ((k + 1 + 1 : Nat) : Int), (markB (k + 1 + 1 + 1))⟩
theorem ct_Item (a : XItem) : a.ct ≤ 64 * (a.ms + 1) := by
  simp only [XItem.ct, XItem.ms]
  omega
theorem flat_Item (xs : List XItem) : ((xs.map XItem.row).all fun r => r.all T.flat) = true := flat_all _ (fun _ => rfl) xs
attribute [push_cast] flat_Item
structure XToken where
  Conf : Int
  Round : Int
  Seq : Int
  Aru : Int
  By : Int
  Wants : List Int
  deriving DecidableEq
def XToken.row (a : XToken) : Row := [.lit (.int .i64 a.Conf), .lit (.int .i64 a.Round), .lit (.int .i64 a.Seq), .lit (.int .i64 a.Aru), .lit (.int .i64 a.By), .sl .ow 1 (a.Wants.map intR)]
def XToken.vw (a : XToken) : List Cl := [.ow (.lit (.int .i64 a.Conf)), .ow (.lit (.int .i64 a.Round)), .ow (.lit (.int .i64 a.Seq)), .ow (.lit (.int .i64 a.Aru)), .ow (.lit (.int .i64 a.By)), .vw none [] (.sl .ow 1 (a.Wants.map intR))]
def XToken.own (a : XToken) : List Cl := [.ow (.lit (.int .i64 a.Conf)), .ow (.lit (.int .i64 a.Round)), .ow (.lit (.int .i64 a.Seq)), .ow (.lit (.int .i64 a.Aru)), .ow (.lit (.int .i64 a.By)), .ow (.sl .ow 1 (a.Wants.map intR))]
def XToken.ms (a : XToken) : Nat := a.Wants.length
def XToken.zero : XToken := ⟨0, 0, 0, 0, 0, []⟩
def XToken.ct (a : XToken) : Nat := 1 + 1 + 1 + 1 + 1 + cntL (fun _ => 1) a.Wants
def XToken.mrk (k : Nat) (a : XToken) : XToken := ⟨((k : Nat) : Int), ((k + 1 : Nat) : Int), ((k + 1 + 1 : Nat) : Int), ((k + 1 + 1 + 1 : Nat) : Int), ((k + 1 + 1 + 1 + 1 : Nat) : Int), (mkL (fun n _ => (n : Int)) (fun _ => 1) (k + 1 + 1 + 1 + 1 + 1) a.Wants)⟩
theorem ct_Token (a : XToken) : a.ct ≤ 64 * (a.ms + 1) := by
  have h0 := cnt1_le a.Wants
  simp only [XToken.ct, XToken.ms]
  omega
def XToken.vct (a : XToken) : Nat := cntL (fun _ => 1) a.Wants
def XToken.vmk (k : Nat) (a : XToken) : XToken := ⟨a.Conf, a.Round, a.Seq, a.Aru, a.By, (mkL (fun n _ => (n : Int)) (fun _ => 1) (k) a.Wants)⟩
theorem vct_Token (a : XToken) : a.vct ≤ 64 * a.ms := by
  have h0 := cnt1_le a.Wants
  simp only [XToken.vct, XToken.ms]
  omega
structure XRing where
  Id : Int
  Members : List Int
  deriving DecidableEq
def XRing.row (a : XRing) : Row := [.lit (.int .i64 a.Id), .sl .ow 1 (a.Members.map intR)]
def XRing.vw (a : XRing) : List Cl := [.ow (.lit (.int .i64 a.Id)), .vw none [] (.sl .ow 1 (a.Members.map intR))]
def XRing.own (a : XRing) : List Cl := [.ow (.lit (.int .i64 a.Id)), .ow (.sl .ow 1 (a.Members.map intR))]
def XRing.ms (a : XRing) : Nat := a.Members.length
def XRing.zero : XRing := ⟨0, []⟩
def XRing.ct (a : XRing) : Nat := 1 + cntL (fun _ => 1) a.Members
def XRing.mrk (k : Nat) (a : XRing) : XRing := ⟨((k : Nat) : Int), (mkL (fun n _ => (n : Int)) (fun _ => 1) (k + 1) a.Members)⟩
theorem ct_Ring (a : XRing) : a.ct ≤ 64 * (a.ms + 1) := by
  have h0 := cnt1_le a.Members
  simp only [XRing.ct, XRing.ms]
  omega
def XRing.vct (a : XRing) : Nat := cntL (fun _ => 1) a.Members
def XRing.vmk (k : Nat) (a : XRing) : XRing := ⟨a.Id, (mkL (fun n _ => (n : Int)) (fun _ => 1) (k) a.Members)⟩
theorem vct_Ring (a : XRing) : a.vct ≤ 64 * a.ms := by
  have h0 := cnt1_le a.Members
  simp only [XRing.vct, XRing.ms]
  omega
structure XMate where
  Id : Int
  Ring : XRing
  Items : List XItem
  Level : List Int
  Texts : List ByteArray
  Round : Int
  Seen : Int
  Line : Int
  Heard : Int
  Last : XToken
  deriving DecidableEq
def XMate.row (a : XMate) : Row := [.lit (.int .i64 a.Id), .lit (.int .i64 a.Ring.Id), .sl .ow 1 (a.Ring.Members.map intR), .sl .ow 4 (a.Items.map XItem.row), .sl .ow 1 (a.Level.map intR), .sl .ow 1 (a.Texts.map strR), .lit (.int .i64 a.Round), .lit (.int .i64 a.Seen), .lit (.int .i64 a.Line), .lit (.int .i64 a.Heard), .lit (.int .i64 a.Last.Conf), .lit (.int .i64 a.Last.Round), .lit (.int .i64 a.Last.Seq), .lit (.int .i64 a.Last.Aru), .lit (.int .i64 a.Last.By), .sl .ow 1 (a.Last.Wants.map intR)]
def XMate.vw (a : XMate) : List Cl := [.ow (.lit (.int .i64 a.Id)), .ow (.lit (.int .i64 a.Ring.Id)), .vw none [] (.sl .ow 1 (a.Ring.Members.map intR)), .vw none [] (.sl .ow 4 (a.Items.map XItem.row)), .vw none [] (.sl .ow 1 (a.Level.map intR)), .vw none [] (.sl .ow 1 (a.Texts.map strR)), .ow (.lit (.int .i64 a.Round)), .ow (.lit (.int .i64 a.Seen)), .ow (.lit (.int .i64 a.Line)), .ow (.lit (.int .i64 a.Heard)), .ow (.lit (.int .i64 a.Last.Conf)), .ow (.lit (.int .i64 a.Last.Round)), .ow (.lit (.int .i64 a.Last.Seq)), .ow (.lit (.int .i64 a.Last.Aru)), .ow (.lit (.int .i64 a.Last.By)), .vw none [] (.sl .ow 1 (a.Last.Wants.map intR))]
def XMate.own (a : XMate) : List Cl := [.ow (.lit (.int .i64 a.Id)), .ow (.lit (.int .i64 a.Ring.Id)), .ow (.sl .ow 1 (a.Ring.Members.map intR)), .ow (.sl .ow 4 (a.Items.map XItem.row)), .ow (.sl .ow 1 (a.Level.map intR)), .ow (.sl .ow 1 (a.Texts.map strR)), .ow (.lit (.int .i64 a.Round)), .ow (.lit (.int .i64 a.Seen)), .ow (.lit (.int .i64 a.Line)), .ow (.lit (.int .i64 a.Heard)), .ow (.lit (.int .i64 a.Last.Conf)), .ow (.lit (.int .i64 a.Last.Round)), .ow (.lit (.int .i64 a.Last.Seq)), .ow (.lit (.int .i64 a.Last.Aru)), .ow (.lit (.int .i64 a.Last.By)), .ow (.sl .ow 1 (a.Last.Wants.map intR))]
def XMate.ms (a : XMate) : Nat := a.Ring.ms + msL XItem.ms a.Items + a.Level.length + msL ByteArray.size a.Texts + a.Last.ms
def XMate.zero : XMate := ⟨0, XRing.zero, [], [], [], 0, 0, 0, 0, XToken.zero⟩
def XMate.ct (a : XMate) : Nat := 1 + 1 + cntL (fun _ => 1) a.Ring.Members + cntL XItem.ct a.Items + cntL (fun _ => 1) a.Level + cntL (fun _ => 1) a.Texts + 1 + 1 + 1 + 1 + 1 + 1 + 1 + 1 + 1 + cntL (fun _ => 1) a.Last.Wants
def XMate.mrk (k : Nat) (a : XMate) : XMate := ⟨((k : Nat) : Int), ⟨((k + 1 : Nat) : Int), (mkL (fun n _ => (n : Int)) (fun _ => 1) (k + 1 + 1) a.Ring.Members)⟩, (mkL XItem.mrk XItem.ct (k + 1 + 1 + cntL (fun _ => 1) a.Ring.Members) a.Items), (mkL (fun n _ => (n : Int)) (fun _ => 1) (k + 1 + 1 + cntL (fun _ => 1) a.Ring.Members + cntL XItem.ct a.Items) a.Level), (mkL (fun n _ => markB n) (fun _ => 1) (k + 1 + 1 + cntL (fun _ => 1) a.Ring.Members + cntL XItem.ct a.Items + cntL (fun _ => 1) a.Level) a.Texts), ((k + 1 + 1 + cntL (fun _ => 1) a.Ring.Members + cntL XItem.ct a.Items + cntL (fun _ => 1) a.Level + cntL (fun _ => 1) a.Texts : Nat) : Int), ((k + 1 + 1 + cntL (fun _ => 1) a.Ring.Members + cntL XItem.ct a.Items + cntL (fun _ => 1) a.Level + cntL (fun _ => 1) a.Texts + 1 : Nat) : Int), ((k + 1 + 1 + cntL (fun _ => 1) a.Ring.Members + cntL XItem.ct a.Items + cntL (fun _ => 1) a.Level + cntL (fun _ => 1) a.Texts + 1 + 1 : Nat) : Int), ((k + 1 + 1 + cntL (fun _ => 1) a.Ring.Members + cntL XItem.ct a.Items + cntL (fun _ => 1) a.Level + cntL (fun _ => 1) a.Texts + 1 + 1 + 1 : Nat) : Int), ⟨((k + 1 + 1 + cntL (fun _ => 1) a.Ring.Members + cntL XItem.ct a.Items + cntL (fun _ => 1) a.Level + cntL (fun _ => 1) a.Texts + 1 + 1 + 1 + 1 : Nat) : Int), ((k + 1 + 1 + cntL (fun _ => 1) a.Ring.Members + cntL XItem.ct a.Items + cntL (fun _ => 1) a.Level + cntL (fun _ => 1) a.Texts + 1 + 1 + 1 + 1 + 1 : Nat) : Int), ((k + 1 + 1 + cntL (fun _ => 1) a.Ring.Members + cntL XItem.ct a.Items + cntL (fun _ => 1) a.Level + cntL (fun _ => 1) a.Texts + 1 + 1 + 1 + 1 + 1 + 1 : Nat) : Int), ((k + 1 + 1 + cntL (fun _ => 1) a.Ring.Members + cntL XItem.ct a.Items + cntL (fun _ => 1) a.Level + cntL (fun _ => 1) a.Texts + 1 + 1 + 1 + 1 + 1 + 1 + 1 : Nat) : Int), ((k + 1 + 1 + cntL (fun _ => 1) a.Ring.Members + cntL XItem.ct a.Items + cntL (fun _ => 1) a.Level + cntL (fun _ => 1) a.Texts + 1 + 1 + 1 + 1 + 1 + 1 + 1 + 1 : Nat) : Int), (mkL (fun n _ => (n : Int)) (fun _ => 1) (k + 1 + 1 + cntL (fun _ => 1) a.Ring.Members + cntL XItem.ct a.Items + cntL (fun _ => 1) a.Level + cntL (fun _ => 1) a.Texts + 1 + 1 + 1 + 1 + 1 + 1 + 1 + 1 + 1) a.Last.Wants)⟩⟩
theorem ct_Mate (a : XMate) : a.ct ≤ 64 * (a.ms + 1) := by
  have h0 := cnt1_le a.Ring.Members
  have h1 := cntL_le XItem.ct XItem.ms ct_Item a.Items
  have h2 := cnt1_le a.Level
  have h3 := cnts_le a.Texts
  have h4 := cnt1_le a.Last.Wants
  simp only [XMate.ct, XMate.ms, XRing.ms, XToken.ms]
  omega
def XMate.vct (a : XMate) : Nat := cntL (fun _ => 1) a.Ring.Members + cntL XItem.ct a.Items + cntL (fun _ => 1) a.Level + cntL (fun _ => 1) a.Texts + cntL (fun _ => 1) a.Last.Wants
def XMate.vmk (k : Nat) (a : XMate) : XMate := ⟨a.Id, ⟨a.Ring.Id, (mkL (fun n _ => (n : Int)) (fun _ => 1) (k) a.Ring.Members)⟩, (mkL XItem.mrk XItem.ct (k + cntL (fun _ => 1) a.Ring.Members) a.Items), (mkL (fun n _ => (n : Int)) (fun _ => 1) (k + cntL (fun _ => 1) a.Ring.Members + cntL XItem.ct a.Items) a.Level), (mkL (fun n _ => markB n) (fun _ => 1) (k + cntL (fun _ => 1) a.Ring.Members + cntL XItem.ct a.Items + cntL (fun _ => 1) a.Level) a.Texts), a.Round, a.Seen, a.Line, a.Heard, ⟨a.Last.Conf, a.Last.Round, a.Last.Seq, a.Last.Aru, a.Last.By, (mkL (fun n _ => (n : Int)) (fun _ => 1) (k + cntL (fun _ => 1) a.Ring.Members + cntL XItem.ct a.Items + cntL (fun _ => 1) a.Level + cntL (fun _ => 1) a.Texts) a.Last.Wants)⟩⟩
theorem vct_Mate (a : XMate) : a.vct ≤ 64 * a.ms := by
  have h0 := cnt1_le a.Ring.Members
  have h1 := cntL_le XItem.ct XItem.ms ct_Item a.Items
  have h2 := cnt1_le a.Level
  have h3 := cnts_le a.Texts
  have h4 := cnt1_le a.Last.Wants
  simp only [XMate.vct, XMate.ms, XRing.ms, XToken.ms]
  omega
structure XBundle where
  From : Int
  New : Int
  Old : Int
  Items : List XItem
  deriving DecidableEq
def XBundle.row (a : XBundle) : Row := [.lit (.int .i64 a.From), .lit (.int .i64 a.New), .lit (.int .i64 a.Old), .sl .ow 4 (a.Items.map XItem.row)]
def XBundle.vw (a : XBundle) : List Cl := [.ow (.lit (.int .i64 a.From)), .ow (.lit (.int .i64 a.New)), .ow (.lit (.int .i64 a.Old)), .vw none [] (.sl .ow 4 (a.Items.map XItem.row))]
def XBundle.own (a : XBundle) : List Cl := [.ow (.lit (.int .i64 a.From)), .ow (.lit (.int .i64 a.New)), .ow (.lit (.int .i64 a.Old)), .ow (.sl .ow 4 (a.Items.map XItem.row))]
def XBundle.ms (a : XBundle) : Nat := msL XItem.ms a.Items
def XBundle.zero : XBundle := ⟨0, 0, 0, []⟩
def XBundle.ct (a : XBundle) : Nat := 1 + 1 + 1 + cntL XItem.ct a.Items
def XBundle.mrk (k : Nat) (a : XBundle) : XBundle := ⟨((k : Nat) : Int), ((k + 1 : Nat) : Int), ((k + 1 + 1 : Nat) : Int), (mkL XItem.mrk XItem.ct (k + 1 + 1 + 1) a.Items)⟩
theorem ct_Bundle (a : XBundle) : a.ct ≤ 64 * (a.ms + 1) := by
  have h0 := cntL_le XItem.ct XItem.ms ct_Item a.Items
  simp only [XBundle.ct, XBundle.ms]
  omega
def XBundle.vct (a : XBundle) : Nat := cntL XItem.ct a.Items
def XBundle.vmk (k : Nat) (a : XBundle) : XBundle := ⟨a.From, a.New, a.Old, (mkL XItem.mrk XItem.ct (k) a.Items)⟩
theorem vct_Bundle (a : XBundle) : a.vct ≤ 64 * a.ms := by
  have h0 := cntL_le XItem.ct XItem.ms ct_Item a.Items
  simp only [XBundle.vct, XBundle.ms]
  omega
structure XEvent where
  Kind : Int
  Ring : XRing
  Item : XItem
  With : List Int
  deriving DecidableEq
def XEvent.row (a : XEvent) : Row := [.lit (.int .i64 a.Kind), .lit (.int .i64 a.Ring.Id), .sl .ow 1 (a.Ring.Members.map intR), .lit (.int .i64 a.Item.Seq), .lit (.int .i64 a.Item.From), .lit (.int .i64 a.Item.Level), .lit (.string a.Item.Text), .sl .ow 1 (a.With.map intR)]
def XEvent.vw (a : XEvent) : List Cl := [.ow (.lit (.int .i64 a.Kind)), .ow (.lit (.int .i64 a.Ring.Id)), .vw none [] (.sl .ow 1 (a.Ring.Members.map intR)), .ow (.lit (.int .i64 a.Item.Seq)), .ow (.lit (.int .i64 a.Item.From)), .ow (.lit (.int .i64 a.Item.Level)), .ow (.lit (.string a.Item.Text)), .vw none [] (.sl .ow 1 (a.With.map intR))]
def XEvent.own (a : XEvent) : List Cl := [.ow (.lit (.int .i64 a.Kind)), .ow (.lit (.int .i64 a.Ring.Id)), .ow (.sl .ow 1 (a.Ring.Members.map intR)), .ow (.lit (.int .i64 a.Item.Seq)), .ow (.lit (.int .i64 a.Item.From)), .ow (.lit (.int .i64 a.Item.Level)), .ow (.lit (.string a.Item.Text)), .ow (.sl .ow 1 (a.With.map intR))]
def XEvent.ms (a : XEvent) : Nat := a.Ring.ms + a.Item.ms + a.With.length
def XEvent.zero : XEvent := ⟨0, XRing.zero, XItem.zero, []⟩
def XEvent.ct (a : XEvent) : Nat := 1 + 1 + cntL (fun _ => 1) a.Ring.Members + 1 + 1 + 1 + 1 + cntL (fun _ => 1) a.With
def XEvent.mrk (k : Nat) (a : XEvent) : XEvent := ⟨((k : Nat) : Int), ⟨((k + 1 : Nat) : Int), (mkL (fun n _ => (n : Int)) (fun _ => 1) (k + 1 + 1) a.Ring.Members)⟩, ⟨((k + 1 + 1 + cntL (fun _ => 1) a.Ring.Members : Nat) : Int), ((k + 1 + 1 + cntL (fun _ => 1) a.Ring.Members + 1 : Nat) : Int), ((k + 1 + 1 + cntL (fun _ => 1) a.Ring.Members + 1 + 1 : Nat) : Int), (markB (k + 1 + 1 + cntL (fun _ => 1) a.Ring.Members + 1 + 1 + 1))⟩, (mkL (fun n _ => (n : Int)) (fun _ => 1) (k + 1 + 1 + cntL (fun _ => 1) a.Ring.Members + 1 + 1 + 1 + 1) a.With)⟩
theorem ct_Event (a : XEvent) : a.ct ≤ 64 * (a.ms + 1) := by
  have h0 := cnt1_le a.Ring.Members
  have h1 := cnt1_le a.With
  simp only [XEvent.ct, XEvent.ms, XItem.ms, XRing.ms]
  omega
def XEvent.vct (a : XEvent) : Nat := cntL (fun _ => 1) a.Ring.Members + cntL (fun _ => 1) a.With
def XEvent.vmk (k : Nat) (a : XEvent) : XEvent := ⟨a.Kind, ⟨a.Ring.Id, (mkL (fun n _ => (n : Int)) (fun _ => 1) (k) a.Ring.Members)⟩, ⟨a.Item.Seq, a.Item.From, a.Item.Level, a.Item.Text⟩, (mkL (fun n _ => (n : Int)) (fun _ => 1) (k + cntL (fun _ => 1) a.Ring.Members) a.With)⟩
theorem vct_Event (a : XEvent) : a.vct ≤ 64 * a.ms := by
  have h0 := cnt1_le a.Ring.Members
  have h1 := cnt1_le a.With
  simp only [XEvent.vct, XEvent.ms, XItem.ms, XRing.ms]
  omega
structure XDaemon where
  Id : Int
  Dead : Bool
  Mate : XMate
  Most : Int
  Old : Int
  Joining : XRing
  Bundles : List XBundle
  Log : List XEvent
  deriving DecidableEq
def XDaemon.row (a : XDaemon) : Row := [.lit (.int .i64 a.Id), .lit (.bool a.Dead), .lit (.int .i64 a.Mate.Id), .lit (.int .i64 a.Mate.Ring.Id), .sl .ow 1 (a.Mate.Ring.Members.map intR), .sl .ow 4 (a.Mate.Items.map XItem.row), .sl .ow 1 (a.Mate.Level.map intR), .sl .ow 1 (a.Mate.Texts.map strR), .lit (.int .i64 a.Mate.Round), .lit (.int .i64 a.Mate.Seen), .lit (.int .i64 a.Mate.Line), .lit (.int .i64 a.Mate.Heard), .lit (.int .i64 a.Mate.Last.Conf), .lit (.int .i64 a.Mate.Last.Round), .lit (.int .i64 a.Mate.Last.Seq), .lit (.int .i64 a.Mate.Last.Aru), .lit (.int .i64 a.Mate.Last.By), .sl .ow 1 (a.Mate.Last.Wants.map intR), .lit (.int .i64 a.Most), .lit (.int .i64 a.Old), .lit (.int .i64 a.Joining.Id), .sl .ow 1 (a.Joining.Members.map intR), .sl .ow 4 (a.Bundles.map XBundle.row), .sl .ow 8 (a.Log.map XEvent.row)]
def XDaemon.vw (a : XDaemon) : List Cl := [.ow (.lit (.int .i64 a.Id)), .ow (.lit (.bool a.Dead)), .ow (.lit (.int .i64 a.Mate.Id)), .ow (.lit (.int .i64 a.Mate.Ring.Id)), .vw none [] (.sl .ow 1 (a.Mate.Ring.Members.map intR)), .vw none [] (.sl .ow 4 (a.Mate.Items.map XItem.row)), .vw none [] (.sl .ow 1 (a.Mate.Level.map intR)), .vw none [] (.sl .ow 1 (a.Mate.Texts.map strR)), .ow (.lit (.int .i64 a.Mate.Round)), .ow (.lit (.int .i64 a.Mate.Seen)), .ow (.lit (.int .i64 a.Mate.Line)), .ow (.lit (.int .i64 a.Mate.Heard)), .ow (.lit (.int .i64 a.Mate.Last.Conf)), .ow (.lit (.int .i64 a.Mate.Last.Round)), .ow (.lit (.int .i64 a.Mate.Last.Seq)), .ow (.lit (.int .i64 a.Mate.Last.Aru)), .ow (.lit (.int .i64 a.Mate.Last.By)), .vw none [] (.sl .ow 1 (a.Mate.Last.Wants.map intR)), .ow (.lit (.int .i64 a.Most)), .ow (.lit (.int .i64 a.Old)), .ow (.lit (.int .i64 a.Joining.Id)), .vw none [] (.sl .ow 1 (a.Joining.Members.map intR)), .vw none [] (.sl .ow 4 (a.Bundles.map XBundle.row)), .vw none [] (.sl .ow 8 (a.Log.map XEvent.row))]
def XDaemon.own (a : XDaemon) : List Cl := [.ow (.lit (.int .i64 a.Id)), .ow (.lit (.bool a.Dead)), .ow (.lit (.int .i64 a.Mate.Id)), .ow (.lit (.int .i64 a.Mate.Ring.Id)), .ow (.sl .ow 1 (a.Mate.Ring.Members.map intR)), .ow (.sl .ow 4 (a.Mate.Items.map XItem.row)), .ow (.sl .ow 1 (a.Mate.Level.map intR)), .ow (.sl .ow 1 (a.Mate.Texts.map strR)), .ow (.lit (.int .i64 a.Mate.Round)), .ow (.lit (.int .i64 a.Mate.Seen)), .ow (.lit (.int .i64 a.Mate.Line)), .ow (.lit (.int .i64 a.Mate.Heard)), .ow (.lit (.int .i64 a.Mate.Last.Conf)), .ow (.lit (.int .i64 a.Mate.Last.Round)), .ow (.lit (.int .i64 a.Mate.Last.Seq)), .ow (.lit (.int .i64 a.Mate.Last.Aru)), .ow (.lit (.int .i64 a.Mate.Last.By)), .ow (.sl .ow 1 (a.Mate.Last.Wants.map intR)), .ow (.lit (.int .i64 a.Most)), .ow (.lit (.int .i64 a.Old)), .ow (.lit (.int .i64 a.Joining.Id)), .ow (.sl .ow 1 (a.Joining.Members.map intR)), .ow (.sl .ow 4 (a.Bundles.map XBundle.row)), .ow (.sl .ow 8 (a.Log.map XEvent.row))]
def XDaemon.ms (a : XDaemon) : Nat := a.Mate.ms + a.Joining.ms + msL XBundle.ms a.Bundles + msL XEvent.ms a.Log
def XDaemon.zero : XDaemon := ⟨0, false, XMate.zero, 0, 0, XRing.zero, [], []⟩
def XDaemon.ct (a : XDaemon) : Nat := 1 + 1 + 1 + 1 + cntL (fun _ => 1) a.Mate.Ring.Members + cntL XItem.ct a.Mate.Items + cntL (fun _ => 1) a.Mate.Level + cntL (fun _ => 1) a.Mate.Texts + 1 + 1 + 1 + 1 + 1 + 1 + 1 + 1 + 1 + cntL (fun _ => 1) a.Mate.Last.Wants + 1 + 1 + 1 + cntL (fun _ => 1) a.Joining.Members + cntL XBundle.ct a.Bundles + cntL XEvent.ct a.Log
def XDaemon.mrk (k : Nat) (a : XDaemon) : XDaemon := ⟨((k : Nat) : Int), (decide (((k + 1 : Nat) : Int).tmod 3 = 0)), ⟨((k + 1 + 1 : Nat) : Int), ⟨((k + 1 + 1 + 1 : Nat) : Int), (mkL (fun n _ => (n : Int)) (fun _ => 1) (k + 1 + 1 + 1 + 1) a.Mate.Ring.Members)⟩, (mkL XItem.mrk XItem.ct (k + 1 + 1 + 1 + 1 + cntL (fun _ => 1) a.Mate.Ring.Members) a.Mate.Items), (mkL (fun n _ => (n : Int)) (fun _ => 1) (k + 1 + 1 + 1 + 1 + cntL (fun _ => 1) a.Mate.Ring.Members + cntL XItem.ct a.Mate.Items) a.Mate.Level), (mkL (fun n _ => markB n) (fun _ => 1) (k + 1 + 1 + 1 + 1 + cntL (fun _ => 1) a.Mate.Ring.Members + cntL XItem.ct a.Mate.Items + cntL (fun _ => 1) a.Mate.Level) a.Mate.Texts), ((k + 1 + 1 + 1 + 1 + cntL (fun _ => 1) a.Mate.Ring.Members + cntL XItem.ct a.Mate.Items + cntL (fun _ => 1) a.Mate.Level + cntL (fun _ => 1) a.Mate.Texts : Nat) : Int), ((k + 1 + 1 + 1 + 1 + cntL (fun _ => 1) a.Mate.Ring.Members + cntL XItem.ct a.Mate.Items + cntL (fun _ => 1) a.Mate.Level + cntL (fun _ => 1) a.Mate.Texts + 1 : Nat) : Int), ((k + 1 + 1 + 1 + 1 + cntL (fun _ => 1) a.Mate.Ring.Members + cntL XItem.ct a.Mate.Items + cntL (fun _ => 1) a.Mate.Level + cntL (fun _ => 1) a.Mate.Texts + 1 + 1 : Nat) : Int), ((k + 1 + 1 + 1 + 1 + cntL (fun _ => 1) a.Mate.Ring.Members + cntL XItem.ct a.Mate.Items + cntL (fun _ => 1) a.Mate.Level + cntL (fun _ => 1) a.Mate.Texts + 1 + 1 + 1 : Nat) : Int), ⟨((k + 1 + 1 + 1 + 1 + cntL (fun _ => 1) a.Mate.Ring.Members + cntL XItem.ct a.Mate.Items + cntL (fun _ => 1) a.Mate.Level + cntL (fun _ => 1) a.Mate.Texts + 1 + 1 + 1 + 1 : Nat) : Int), ((k + 1 + 1 + 1 + 1 + cntL (fun _ => 1) a.Mate.Ring.Members + cntL XItem.ct a.Mate.Items + cntL (fun _ => 1) a.Mate.Level + cntL (fun _ => 1) a.Mate.Texts + 1 + 1 + 1 + 1 + 1 : Nat) : Int), ((k + 1 + 1 + 1 + 1 + cntL (fun _ => 1) a.Mate.Ring.Members + cntL XItem.ct a.Mate.Items + cntL (fun _ => 1) a.Mate.Level + cntL (fun _ => 1) a.Mate.Texts + 1 + 1 + 1 + 1 + 1 + 1 : Nat) : Int), ((k + 1 + 1 + 1 + 1 + cntL (fun _ => 1) a.Mate.Ring.Members + cntL XItem.ct a.Mate.Items + cntL (fun _ => 1) a.Mate.Level + cntL (fun _ => 1) a.Mate.Texts + 1 + 1 + 1 + 1 + 1 + 1 + 1 : Nat) : Int), ((k + 1 + 1 + 1 + 1 + cntL (fun _ => 1) a.Mate.Ring.Members + cntL XItem.ct a.Mate.Items + cntL (fun _ => 1) a.Mate.Level + cntL (fun _ => 1) a.Mate.Texts + 1 + 1 + 1 + 1 + 1 + 1 + 1 + 1 : Nat) : Int), (mkL (fun n _ => (n : Int)) (fun _ => 1) (k + 1 + 1 + 1 + 1 + cntL (fun _ => 1) a.Mate.Ring.Members + cntL XItem.ct a.Mate.Items + cntL (fun _ => 1) a.Mate.Level + cntL (fun _ => 1) a.Mate.Texts + 1 + 1 + 1 + 1 + 1 + 1 + 1 + 1 + 1) a.Mate.Last.Wants)⟩⟩, ((k + 1 + 1 + 1 + 1 + cntL (fun _ => 1) a.Mate.Ring.Members + cntL XItem.ct a.Mate.Items + cntL (fun _ => 1) a.Mate.Level + cntL (fun _ => 1) a.Mate.Texts + 1 + 1 + 1 + 1 + 1 + 1 + 1 + 1 + 1 + cntL (fun _ => 1) a.Mate.Last.Wants : Nat) : Int), ((k + 1 + 1 + 1 + 1 + cntL (fun _ => 1) a.Mate.Ring.Members + cntL XItem.ct a.Mate.Items + cntL (fun _ => 1) a.Mate.Level + cntL (fun _ => 1) a.Mate.Texts + 1 + 1 + 1 + 1 + 1 + 1 + 1 + 1 + 1 + cntL (fun _ => 1) a.Mate.Last.Wants + 1 : Nat) : Int), ⟨((k + 1 + 1 + 1 + 1 + cntL (fun _ => 1) a.Mate.Ring.Members + cntL XItem.ct a.Mate.Items + cntL (fun _ => 1) a.Mate.Level + cntL (fun _ => 1) a.Mate.Texts + 1 + 1 + 1 + 1 + 1 + 1 + 1 + 1 + 1 + cntL (fun _ => 1) a.Mate.Last.Wants + 1 + 1 : Nat) : Int), (mkL (fun n _ => (n : Int)) (fun _ => 1) (k + 1 + 1 + 1 + 1 + cntL (fun _ => 1) a.Mate.Ring.Members + cntL XItem.ct a.Mate.Items + cntL (fun _ => 1) a.Mate.Level + cntL (fun _ => 1) a.Mate.Texts + 1 + 1 + 1 + 1 + 1 + 1 + 1 + 1 + 1 + cntL (fun _ => 1) a.Mate.Last.Wants + 1 + 1 + 1) a.Joining.Members)⟩, (mkL XBundle.mrk XBundle.ct (k + 1 + 1 + 1 + 1 + cntL (fun _ => 1) a.Mate.Ring.Members + cntL XItem.ct a.Mate.Items + cntL (fun _ => 1) a.Mate.Level + cntL (fun _ => 1) a.Mate.Texts + 1 + 1 + 1 + 1 + 1 + 1 + 1 + 1 + 1 + cntL (fun _ => 1) a.Mate.Last.Wants + 1 + 1 + 1 + cntL (fun _ => 1) a.Joining.Members) a.Bundles), (mkL XEvent.mrk XEvent.ct (k + 1 + 1 + 1 + 1 + cntL (fun _ => 1) a.Mate.Ring.Members + cntL XItem.ct a.Mate.Items + cntL (fun _ => 1) a.Mate.Level + cntL (fun _ => 1) a.Mate.Texts + 1 + 1 + 1 + 1 + 1 + 1 + 1 + 1 + 1 + cntL (fun _ => 1) a.Mate.Last.Wants + 1 + 1 + 1 + cntL (fun _ => 1) a.Joining.Members + cntL XBundle.ct a.Bundles) a.Log)⟩
theorem ct_Daemon (a : XDaemon) : a.ct ≤ 64 * (a.ms + 1) := by
  have h0 := cnt1_le a.Mate.Ring.Members
  have h1 := cntL_le XItem.ct XItem.ms ct_Item a.Mate.Items
  have h2 := cnt1_le a.Mate.Level
  have h3 := cnts_le a.Mate.Texts
  have h4 := cnt1_le a.Mate.Last.Wants
  have h5 := cnt1_le a.Joining.Members
  have h6 := cntL_le XBundle.ct XBundle.ms ct_Bundle a.Bundles
  have h7 := cntL_le XEvent.ct XEvent.ms ct_Event a.Log
  simp only [XDaemon.ct, XDaemon.ms, XMate.ms, XRing.ms, XToken.ms]
  omega
def XDaemon.vct (a : XDaemon) : Nat := cntL (fun _ => 1) a.Mate.Ring.Members + cntL XItem.ct a.Mate.Items + cntL (fun _ => 1) a.Mate.Level + cntL (fun _ => 1) a.Mate.Texts + cntL (fun _ => 1) a.Mate.Last.Wants + cntL (fun _ => 1) a.Joining.Members + cntL XBundle.ct a.Bundles + cntL XEvent.ct a.Log
def XDaemon.vmk (k : Nat) (a : XDaemon) : XDaemon := ⟨a.Id, a.Dead, ⟨a.Mate.Id, ⟨a.Mate.Ring.Id, (mkL (fun n _ => (n : Int)) (fun _ => 1) (k) a.Mate.Ring.Members)⟩, (mkL XItem.mrk XItem.ct (k + cntL (fun _ => 1) a.Mate.Ring.Members) a.Mate.Items), (mkL (fun n _ => (n : Int)) (fun _ => 1) (k + cntL (fun _ => 1) a.Mate.Ring.Members + cntL XItem.ct a.Mate.Items) a.Mate.Level), (mkL (fun n _ => markB n) (fun _ => 1) (k + cntL (fun _ => 1) a.Mate.Ring.Members + cntL XItem.ct a.Mate.Items + cntL (fun _ => 1) a.Mate.Level) a.Mate.Texts), a.Mate.Round, a.Mate.Seen, a.Mate.Line, a.Mate.Heard, ⟨a.Mate.Last.Conf, a.Mate.Last.Round, a.Mate.Last.Seq, a.Mate.Last.Aru, a.Mate.Last.By, (mkL (fun n _ => (n : Int)) (fun _ => 1) (k + cntL (fun _ => 1) a.Mate.Ring.Members + cntL XItem.ct a.Mate.Items + cntL (fun _ => 1) a.Mate.Level + cntL (fun _ => 1) a.Mate.Texts) a.Mate.Last.Wants)⟩⟩, a.Most, a.Old, ⟨a.Joining.Id, (mkL (fun n _ => (n : Int)) (fun _ => 1) (k + cntL (fun _ => 1) a.Mate.Ring.Members + cntL XItem.ct a.Mate.Items + cntL (fun _ => 1) a.Mate.Level + cntL (fun _ => 1) a.Mate.Texts + cntL (fun _ => 1) a.Mate.Last.Wants) a.Joining.Members)⟩, (mkL XBundle.mrk XBundle.ct (k + cntL (fun _ => 1) a.Mate.Ring.Members + cntL XItem.ct a.Mate.Items + cntL (fun _ => 1) a.Mate.Level + cntL (fun _ => 1) a.Mate.Texts + cntL (fun _ => 1) a.Mate.Last.Wants + cntL (fun _ => 1) a.Joining.Members) a.Bundles), (mkL XEvent.mrk XEvent.ct (k + cntL (fun _ => 1) a.Mate.Ring.Members + cntL XItem.ct a.Mate.Items + cntL (fun _ => 1) a.Mate.Level + cntL (fun _ => 1) a.Mate.Texts + cntL (fun _ => 1) a.Mate.Last.Wants + cntL (fun _ => 1) a.Joining.Members + cntL XBundle.ct a.Bundles) a.Log)⟩
theorem vct_Daemon (a : XDaemon) : a.vct ≤ 64 * a.ms := by
  have h0 := cnt1_le a.Mate.Ring.Members
  have h1 := cntL_le XItem.ct XItem.ms ct_Item a.Mate.Items
  have h2 := cnt1_le a.Mate.Level
  have h3 := cnts_le a.Mate.Texts
  have h4 := cnt1_le a.Mate.Last.Wants
  have h5 := cnt1_le a.Joining.Members
  have h6 := cntL_le XBundle.ct XBundle.ms ct_Bundle a.Bundles
  have h7 := cntL_le XEvent.ct XEvent.ms ct_Event a.Log
  simp only [XDaemon.vct, XDaemon.ms, XMate.ms, XRing.ms, XToken.ms]
  omega
structure XLetter where
  Kind : Int
  To : Int
  Conf : Int
  Item : XItem
  Token : XToken
  Bundle : XBundle
  deriving DecidableEq
def XLetter.row (a : XLetter) : Row := [.lit (.int .i64 a.Kind), .lit (.int .i64 a.To), .lit (.int .i64 a.Conf), .lit (.int .i64 a.Item.Seq), .lit (.int .i64 a.Item.From), .lit (.int .i64 a.Item.Level), .lit (.string a.Item.Text), .lit (.int .i64 a.Token.Conf), .lit (.int .i64 a.Token.Round), .lit (.int .i64 a.Token.Seq), .lit (.int .i64 a.Token.Aru), .lit (.int .i64 a.Token.By), .sl .ow 1 (a.Token.Wants.map intR), .lit (.int .i64 a.Bundle.From), .lit (.int .i64 a.Bundle.New), .lit (.int .i64 a.Bundle.Old), .sl .ow 4 (a.Bundle.Items.map XItem.row)]
def XLetter.vw (a : XLetter) : List Cl := [.ow (.lit (.int .i64 a.Kind)), .ow (.lit (.int .i64 a.To)), .ow (.lit (.int .i64 a.Conf)), .ow (.lit (.int .i64 a.Item.Seq)), .ow (.lit (.int .i64 a.Item.From)), .ow (.lit (.int .i64 a.Item.Level)), .ow (.lit (.string a.Item.Text)), .ow (.lit (.int .i64 a.Token.Conf)), .ow (.lit (.int .i64 a.Token.Round)), .ow (.lit (.int .i64 a.Token.Seq)), .ow (.lit (.int .i64 a.Token.Aru)), .ow (.lit (.int .i64 a.Token.By)), .vw none [] (.sl .ow 1 (a.Token.Wants.map intR)), .ow (.lit (.int .i64 a.Bundle.From)), .ow (.lit (.int .i64 a.Bundle.New)), .ow (.lit (.int .i64 a.Bundle.Old)), .vw none [] (.sl .ow 4 (a.Bundle.Items.map XItem.row))]
def XLetter.own (a : XLetter) : List Cl := [.ow (.lit (.int .i64 a.Kind)), .ow (.lit (.int .i64 a.To)), .ow (.lit (.int .i64 a.Conf)), .ow (.lit (.int .i64 a.Item.Seq)), .ow (.lit (.int .i64 a.Item.From)), .ow (.lit (.int .i64 a.Item.Level)), .ow (.lit (.string a.Item.Text)), .ow (.lit (.int .i64 a.Token.Conf)), .ow (.lit (.int .i64 a.Token.Round)), .ow (.lit (.int .i64 a.Token.Seq)), .ow (.lit (.int .i64 a.Token.Aru)), .ow (.lit (.int .i64 a.Token.By)), .ow (.sl .ow 1 (a.Token.Wants.map intR)), .ow (.lit (.int .i64 a.Bundle.From)), .ow (.lit (.int .i64 a.Bundle.New)), .ow (.lit (.int .i64 a.Bundle.Old)), .ow (.sl .ow 4 (a.Bundle.Items.map XItem.row))]
def XLetter.ms (a : XLetter) : Nat := a.Item.ms + a.Token.ms + a.Bundle.ms
def XLetter.zero : XLetter := ⟨0, 0, 0, XItem.zero, XToken.zero, XBundle.zero⟩
def XLetter.ct (a : XLetter) : Nat := 1 + 1 + 1 + 1 + 1 + 1 + 1 + 1 + 1 + 1 + 1 + 1 + cntL (fun _ => 1) a.Token.Wants + 1 + 1 + 1 + cntL XItem.ct a.Bundle.Items
def XLetter.mrk (k : Nat) (a : XLetter) : XLetter := ⟨((k : Nat) : Int), ((k + 1 : Nat) : Int), ((k + 1 + 1 : Nat) : Int), ⟨((k + 1 + 1 + 1 : Nat) : Int), ((k + 1 + 1 + 1 + 1 : Nat) : Int), ((k + 1 + 1 + 1 + 1 + 1 : Nat) : Int), (markB (k + 1 + 1 + 1 + 1 + 1 + 1))⟩, ⟨((k + 1 + 1 + 1 + 1 + 1 + 1 + 1 : Nat) : Int), ((k + 1 + 1 + 1 + 1 + 1 + 1 + 1 + 1 : Nat) : Int), ((k + 1 + 1 + 1 + 1 + 1 + 1 + 1 + 1 + 1 : Nat) : Int), ((k + 1 + 1 + 1 + 1 + 1 + 1 + 1 + 1 + 1 + 1 : Nat) : Int), ((k + 1 + 1 + 1 + 1 + 1 + 1 + 1 + 1 + 1 + 1 + 1 : Nat) : Int), (mkL (fun n _ => (n : Int)) (fun _ => 1) (k + 1 + 1 + 1 + 1 + 1 + 1 + 1 + 1 + 1 + 1 + 1 + 1) a.Token.Wants)⟩, ⟨((k + 1 + 1 + 1 + 1 + 1 + 1 + 1 + 1 + 1 + 1 + 1 + 1 + cntL (fun _ => 1) a.Token.Wants : Nat) : Int), ((k + 1 + 1 + 1 + 1 + 1 + 1 + 1 + 1 + 1 + 1 + 1 + 1 + cntL (fun _ => 1) a.Token.Wants + 1 : Nat) : Int), ((k + 1 + 1 + 1 + 1 + 1 + 1 + 1 + 1 + 1 + 1 + 1 + 1 + cntL (fun _ => 1) a.Token.Wants + 1 + 1 : Nat) : Int), (mkL XItem.mrk XItem.ct (k + 1 + 1 + 1 + 1 + 1 + 1 + 1 + 1 + 1 + 1 + 1 + 1 + cntL (fun _ => 1) a.Token.Wants + 1 + 1 + 1) a.Bundle.Items)⟩⟩
theorem ct_Letter (a : XLetter) : a.ct ≤ 64 * (a.ms + 1) := by
  have h0 := cnt1_le a.Token.Wants
  have h1 := cntL_le XItem.ct XItem.ms ct_Item a.Bundle.Items
  simp only [XLetter.ct, XLetter.ms, XBundle.ms, XItem.ms, XToken.ms]
  omega
def XLetter.vct (a : XLetter) : Nat := cntL (fun _ => 1) a.Token.Wants + cntL XItem.ct a.Bundle.Items
def XLetter.vmk (k : Nat) (a : XLetter) : XLetter := ⟨a.Kind, a.To, a.Conf, ⟨a.Item.Seq, a.Item.From, a.Item.Level, a.Item.Text⟩, ⟨a.Token.Conf, a.Token.Round, a.Token.Seq, a.Token.Aru, a.Token.By, (mkL (fun n _ => (n : Int)) (fun _ => 1) (k) a.Token.Wants)⟩, ⟨a.Bundle.From, a.Bundle.New, a.Bundle.Old, (mkL XItem.mrk XItem.ct (k + cntL (fun _ => 1) a.Token.Wants) a.Bundle.Items)⟩⟩
theorem vct_Letter (a : XLetter) : a.vct ≤ 64 * a.ms := by
  have h0 := cnt1_le a.Token.Wants
  have h1 := cntL_le XItem.ct XItem.ms ct_Item a.Bundle.Items
  simp only [XLetter.vct, XLetter.ms, XBundle.ms, XItem.ms, XToken.ms]
  omega
structure XWorld where
  Rings : List XRing
  Daemons : List XDaemon
  Letters : List XLetter
  Numbered : List XEvent
  deriving DecidableEq
def XWorld.row (a : XWorld) : Row := [.sl .ow 2 (a.Rings.map XRing.row), .sl .ow 24 (a.Daemons.map XDaemon.row), .sl .ow 17 (a.Letters.map XLetter.row), .sl .ow 8 (a.Numbered.map XEvent.row)]
def XWorld.vw (a : XWorld) : List Cl := [.vw none [] (.sl .ow 2 (a.Rings.map XRing.row)), .vw none [] (.sl .ow 24 (a.Daemons.map XDaemon.row)), .vw none [] (.sl .ow 17 (a.Letters.map XLetter.row)), .vw none [] (.sl .ow 8 (a.Numbered.map XEvent.row))]
def XWorld.own (a : XWorld) : List Cl := [.ow (.sl .ow 2 (a.Rings.map XRing.row)), .ow (.sl .ow 24 (a.Daemons.map XDaemon.row)), .ow (.sl .ow 17 (a.Letters.map XLetter.row)), .ow (.sl .ow 8 (a.Numbered.map XEvent.row))]
def XWorld.ms (a : XWorld) : Nat := msL XRing.ms a.Rings + msL XDaemon.ms a.Daemons + msL XLetter.ms a.Letters + msL XEvent.ms a.Numbered
def XWorld.zero : XWorld := ⟨[], [], [], []⟩
def XWorld.ct (a : XWorld) : Nat := cntL XRing.ct a.Rings + cntL XDaemon.ct a.Daemons + cntL XLetter.ct a.Letters + cntL XEvent.ct a.Numbered
def XWorld.mrk (k : Nat) (a : XWorld) : XWorld := ⟨(mkL XRing.mrk XRing.ct (k) a.Rings), (mkL XDaemon.mrk XDaemon.ct (k + cntL XRing.ct a.Rings) a.Daemons), (mkL XLetter.mrk XLetter.ct (k + cntL XRing.ct a.Rings + cntL XDaemon.ct a.Daemons) a.Letters), (mkL XEvent.mrk XEvent.ct (k + cntL XRing.ct a.Rings + cntL XDaemon.ct a.Daemons + cntL XLetter.ct a.Letters) a.Numbered)⟩
theorem ct_World (a : XWorld) : a.ct ≤ 64 * (a.ms + 1) := by
  have h0 := cntL_le XRing.ct XRing.ms ct_Ring a.Rings
  have h1 := cntL_le XDaemon.ct XDaemon.ms ct_Daemon a.Daemons
  have h2 := cntL_le XLetter.ct XLetter.ms ct_Letter a.Letters
  have h3 := cntL_le XEvent.ct XEvent.ms ct_Event a.Numbered
  simp only [XWorld.ct, XWorld.ms]
  omega
def XWorld.vct (a : XWorld) : Nat := cntL XRing.ct a.Rings + cntL XDaemon.ct a.Daemons + cntL XLetter.ct a.Letters + cntL XEvent.ct a.Numbered
def XWorld.vmk (k : Nat) (a : XWorld) : XWorld := ⟨(mkL XRing.mrk XRing.ct (k) a.Rings), (mkL XDaemon.mrk XDaemon.ct (k + cntL XRing.ct a.Rings) a.Daemons), (mkL XLetter.mrk XLetter.ct (k + cntL XRing.ct a.Rings + cntL XDaemon.ct a.Daemons) a.Letters), (mkL XEvent.mrk XEvent.ct (k + cntL XRing.ct a.Rings + cntL XDaemon.ct a.Daemons + cntL XLetter.ct a.Letters) a.Numbered)⟩
theorem vct_World (a : XWorld) : a.vct ≤ 64 * a.ms := by
  have h0 := cntL_le XRing.ct XRing.ms ct_Ring a.Rings
  have h1 := cntL_le XDaemon.ct XDaemon.ms ct_Daemon a.Daemons
  have h2 := cntL_le XLetter.ct XLetter.ms ct_Letter a.Letters
  have h3 := cntL_le XEvent.ct XEvent.ms ct_Event a.Numbered
  simp only [XWorld.vct, XWorld.ms]
  omega
structure XGroup where
  Name : ByteArray
  Members : List ByteArray
  deriving DecidableEq
def XGroup.row (a : XGroup) : Row := [.lit (.string a.Name), .sl .ow 1 (a.Members.map strR)]
def XGroup.vw (a : XGroup) : List Cl := [.ow (.lit (.string a.Name)), .vw none [] (.sl .ow 1 (a.Members.map strR))]
def XGroup.own (a : XGroup) : List Cl := [.ow (.lit (.string a.Name)), .ow (.sl .ow 1 (a.Members.map strR))]
def XGroup.ms (a : XGroup) : Nat := a.Name.size + msL ByteArray.size a.Members
def XGroup.zero : XGroup := ⟨emp, []⟩
def XGroup.ct (a : XGroup) : Nat := 1 + cntL (fun _ => 1) a.Members
def XGroup.mrk (k : Nat) (a : XGroup) : XGroup := ⟨(markB (k)), (mkL (fun n _ => markB n) (fun _ => 1) (k + 1) a.Members)⟩
theorem ct_Group (a : XGroup) : a.ct ≤ 64 * (a.ms + 1) := by
  have h0 := cnts_le a.Members
  simp only [XGroup.ct, XGroup.ms]
  omega
def XGroup.vct (a : XGroup) : Nat := cntL (fun _ => 1) a.Members
def XGroup.vmk (k : Nat) (a : XGroup) : XGroup := ⟨a.Name, (mkL (fun n _ => markB n) (fun _ => 1) (k) a.Members)⟩
theorem vct_Group (a : XGroup) : a.vct ≤ 64 * a.ms := by
  have h0 := cnts_le a.Members
  simp only [XGroup.vct, XGroup.ms]
  omega
structure XTable where
  Groups : List XGroup
  deriving DecidableEq
def XTable.row (a : XTable) : Row := [.sl .ow 2 (a.Groups.map XGroup.row)]
def XTable.vw (a : XTable) : List Cl := [.vw none [] (.sl .ow 2 (a.Groups.map XGroup.row))]
def XTable.own (a : XTable) : List Cl := [.ow (.sl .ow 2 (a.Groups.map XGroup.row))]
def XTable.ms (a : XTable) : Nat := msL XGroup.ms a.Groups
def XTable.zero : XTable := ⟨[]⟩
def XTable.ct (a : XTable) : Nat := cntL XGroup.ct a.Groups
def XTable.mrk (k : Nat) (a : XTable) : XTable := ⟨(mkL XGroup.mrk XGroup.ct (k) a.Groups)⟩
theorem ct_Table (a : XTable) : a.ct ≤ 64 * (a.ms + 1) := by
  have h0 := cntL_le XGroup.ct XGroup.ms ct_Group a.Groups
  simp only [XTable.ct, XTable.ms]
  omega
def XTable.vct (a : XTable) : Nat := cntL XGroup.ct a.Groups
def XTable.vmk (k : Nat) (a : XTable) : XTable := ⟨(mkL XGroup.mrk XGroup.ct (k) a.Groups)⟩
theorem vct_Table (a : XTable) : a.vct ≤ 64 * a.ms := by
  have h0 := cntL_le XGroup.ct XGroup.ms ct_Group a.Groups
  simp only [XTable.vct, XTable.ms]
  omega
structure XBox where
  Name : ByteArray
  Texts : List ByteArray
  Over : Bool
  deriving DecidableEq
def XBox.row (a : XBox) : Row := [.lit (.string a.Name), .sl .ow 1 (a.Texts.map strR), .lit (.bool a.Over)]
def XBox.vw (a : XBox) : List Cl := [.ow (.lit (.string a.Name)), .vw none [] (.sl .ow 1 (a.Texts.map strR)), .ow (.lit (.bool a.Over))]
def XBox.own (a : XBox) : List Cl := [.ow (.lit (.string a.Name)), .ow (.sl .ow 1 (a.Texts.map strR)), .ow (.lit (.bool a.Over))]
def XBox.ms (a : XBox) : Nat := a.Name.size + msL ByteArray.size a.Texts
def XBox.zero : XBox := ⟨emp, [], false⟩
def XBox.ct (a : XBox) : Nat := 1 + cntL (fun _ => 1) a.Texts + 1
def XBox.mrk (k : Nat) (a : XBox) : XBox := ⟨(markB (k)), (mkL (fun n _ => markB n) (fun _ => 1) (k + 1) a.Texts), (decide (((k + 1 + cntL (fun _ => 1) a.Texts : Nat) : Int).tmod 3 = 0))⟩
theorem ct_Box (a : XBox) : a.ct ≤ 64 * (a.ms + 1) := by
  have h0 := cnts_le a.Texts
  simp only [XBox.ct, XBox.ms]
  omega
def XBox.vct (a : XBox) : Nat := cntL (fun _ => 1) a.Texts
def XBox.vmk (k : Nat) (a : XBox) : XBox := ⟨a.Name, (mkL (fun n _ => markB n) (fun _ => 1) (k) a.Texts), a.Over⟩
theorem vct_Box (a : XBox) : a.vct ≤ 64 * a.ms := by
  have h0 := cnts_le a.Texts
  simp only [XBox.vct, XBox.ms]
  omega
structure XSession where
  Daemon : Int
  Name : ByteArray
  Read : XReader
  Shut : Bool
  In : List ByteArray
  deriving DecidableEq
def XSession.row (a : XSession) : Row := [.lit (.int .i64 a.Daemon), .lit (.string a.Name), .lit (.string a.Read.Rest), .lit (.bool a.Read.Bad), .lit (.bool a.Shut), .sl .ow 1 (a.In.map strR)]
def XSession.vw (a : XSession) : List Cl := [.ow (.lit (.int .i64 a.Daemon)), .ow (.lit (.string a.Name)), .ow (.lit (.string a.Read.Rest)), .ow (.lit (.bool a.Read.Bad)), .ow (.lit (.bool a.Shut)), .vw none [] (.sl .ow 1 (a.In.map strR))]
def XSession.own (a : XSession) : List Cl := [.ow (.lit (.int .i64 a.Daemon)), .ow (.lit (.string a.Name)), .ow (.lit (.string a.Read.Rest)), .ow (.lit (.bool a.Read.Bad)), .ow (.lit (.bool a.Shut)), .ow (.sl .ow 1 (a.In.map strR))]
def XSession.ms (a : XSession) : Nat := a.Name.size + a.Read.ms + msL ByteArray.size a.In
def XSession.zero : XSession := ⟨0, emp, XReader.zero, false, []⟩
def XSession.ct (a : XSession) : Nat := 1 + 1 + 1 + 1 + 1 + cntL (fun _ => 1) a.In
def XSession.mrk (k : Nat) (a : XSession) : XSession := ⟨((k : Nat) : Int), (markB (k + 1)), ⟨(markB (k + 1 + 1)), (decide (((k + 1 + 1 + 1 : Nat) : Int).tmod 3 = 0))⟩, (decide (((k + 1 + 1 + 1 + 1 : Nat) : Int).tmod 3 = 0)), (mkL (fun n _ => markB n) (fun _ => 1) (k + 1 + 1 + 1 + 1 + 1) a.In)⟩
theorem ct_Session (a : XSession) : a.ct ≤ 64 * (a.ms + 1) := by
  have h0 := cnts_le a.In
  simp only [XSession.ct, XSession.ms, XReader.ms]
  omega
def XSession.vct (a : XSession) : Nat := cntL (fun _ => 1) a.In
def XSession.vmk (k : Nat) (a : XSession) : XSession := ⟨a.Daemon, a.Name, ⟨a.Read.Rest, a.Read.Bad⟩, a.Shut, (mkL (fun n _ => markB n) (fun _ => 1) (k) a.In)⟩
theorem vct_Session (a : XSession) : a.vct ≤ 64 * a.ms := by
  have h0 := cnts_le a.In
  simp only [XSession.vct, XSession.ms, XReader.ms]
  omega
structure XCaller where
  Session : XSession
  Box : XBox
  Fault : ByteArray
  Got : List ByteArray
  deriving DecidableEq
def XCaller.row (a : XCaller) : Row := [.lit (.int .i64 a.Session.Daemon), .lit (.string a.Session.Name), .lit (.string a.Session.Read.Rest), .lit (.bool a.Session.Read.Bad), .lit (.bool a.Session.Shut), .sl .ow 1 (a.Session.In.map strR), .lit (.string a.Box.Name), .sl .ow 1 (a.Box.Texts.map strR), .lit (.bool a.Box.Over), .lit (.string a.Fault), .sl .ow 1 (a.Got.map strR)]
def XCaller.vw (a : XCaller) : List Cl := [.ow (.lit (.int .i64 a.Session.Daemon)), .ow (.lit (.string a.Session.Name)), .ow (.lit (.string a.Session.Read.Rest)), .ow (.lit (.bool a.Session.Read.Bad)), .ow (.lit (.bool a.Session.Shut)), .vw none [] (.sl .ow 1 (a.Session.In.map strR)), .ow (.lit (.string a.Box.Name)), .vw none [] (.sl .ow 1 (a.Box.Texts.map strR)), .ow (.lit (.bool a.Box.Over)), .ow (.lit (.string a.Fault)), .vw none [] (.sl .ow 1 (a.Got.map strR))]
def XCaller.own (a : XCaller) : List Cl := [.ow (.lit (.int .i64 a.Session.Daemon)), .ow (.lit (.string a.Session.Name)), .ow (.lit (.string a.Session.Read.Rest)), .ow (.lit (.bool a.Session.Read.Bad)), .ow (.lit (.bool a.Session.Shut)), .ow (.sl .ow 1 (a.Session.In.map strR)), .ow (.lit (.string a.Box.Name)), .ow (.sl .ow 1 (a.Box.Texts.map strR)), .ow (.lit (.bool a.Box.Over)), .ow (.lit (.string a.Fault)), .ow (.sl .ow 1 (a.Got.map strR))]
def XCaller.ms (a : XCaller) : Nat := a.Session.ms + a.Box.ms + a.Fault.size + msL ByteArray.size a.Got
def XCaller.zero : XCaller := ⟨XSession.zero, XBox.zero, emp, []⟩
def XCaller.ct (a : XCaller) : Nat := 1 + 1 + 1 + 1 + 1 + cntL (fun _ => 1) a.Session.In + 1 + cntL (fun _ => 1) a.Box.Texts + 1 + 1 + cntL (fun _ => 1) a.Got
def XCaller.mrk (k : Nat) (a : XCaller) : XCaller := ⟨⟨((k : Nat) : Int), (markB (k + 1)), ⟨(markB (k + 1 + 1)), (decide (((k + 1 + 1 + 1 : Nat) : Int).tmod 3 = 0))⟩, (decide (((k + 1 + 1 + 1 + 1 : Nat) : Int).tmod 3 = 0)), (mkL (fun n _ => markB n) (fun _ => 1) (k + 1 + 1 + 1 + 1 + 1) a.Session.In)⟩, ⟨(markB (k + 1 + 1 + 1 + 1 + 1 + cntL (fun _ => 1) a.Session.In)), (mkL (fun n _ => markB n) (fun _ => 1) (k + 1 + 1 + 1 + 1 + 1 + cntL (fun _ => 1) a.Session.In + 1) a.Box.Texts), (decide (((k + 1 + 1 + 1 + 1 + 1 + cntL (fun _ => 1) a.Session.In + 1 + cntL (fun _ => 1) a.Box.Texts : Nat) : Int).tmod 3 = 0))⟩, (markB (k + 1 + 1 + 1 + 1 + 1 + cntL (fun _ => 1) a.Session.In + 1 + cntL (fun _ => 1) a.Box.Texts + 1)), (mkL (fun n _ => markB n) (fun _ => 1) (k + 1 + 1 + 1 + 1 + 1 + cntL (fun _ => 1) a.Session.In + 1 + cntL (fun _ => 1) a.Box.Texts + 1 + 1) a.Got)⟩
theorem ct_Caller (a : XCaller) : a.ct ≤ 64 * (a.ms + 1) := by
  have h0 := cnts_le a.Session.In
  have h1 := cnts_le a.Box.Texts
  have h2 := cnts_le a.Got
  simp only [XCaller.ct, XCaller.ms, XBox.ms, XReader.ms, XSession.ms]
  omega
def XCaller.vct (a : XCaller) : Nat := cntL (fun _ => 1) a.Session.In + cntL (fun _ => 1) a.Box.Texts + cntL (fun _ => 1) a.Got
def XCaller.vmk (k : Nat) (a : XCaller) : XCaller := ⟨⟨a.Session.Daemon, a.Session.Name, ⟨a.Session.Read.Rest, a.Session.Read.Bad⟩, a.Session.Shut, (mkL (fun n _ => markB n) (fun _ => 1) (k) a.Session.In)⟩, ⟨a.Box.Name, (mkL (fun n _ => markB n) (fun _ => 1) (k + cntL (fun _ => 1) a.Session.In) a.Box.Texts), a.Box.Over⟩, a.Fault, (mkL (fun n _ => markB n) (fun _ => 1) (k + cntL (fun _ => 1) a.Session.In + cntL (fun _ => 1) a.Box.Texts) a.Got)⟩
theorem vct_Caller (a : XCaller) : a.vct ≤ 64 * a.ms := by
  have h0 := cnts_le a.Session.In
  have h1 := cnts_le a.Box.Texts
  have h2 := cnts_le a.Got
  simp only [XCaller.vct, XCaller.ms, XBox.ms, XReader.ms, XSession.ms]
  omega
structure XHall where
  World : XWorld
  Callers : List XCaller
  Tables : List XTable
  Seen : List Int
  deriving DecidableEq
def XHall.row (a : XHall) : Row := [.sl .ow 2 (a.World.Rings.map XRing.row), .sl .ow 24 (a.World.Daemons.map XDaemon.row), .sl .ow 17 (a.World.Letters.map XLetter.row), .sl .ow 8 (a.World.Numbered.map XEvent.row), .sl .ow 11 (a.Callers.map XCaller.row), .sl .ow 1 (a.Tables.map XTable.row), .sl .ow 1 (a.Seen.map intR)]
def XHall.vw (a : XHall) : List Cl := [.vw none [] (.sl .ow 2 (a.World.Rings.map XRing.row)), .vw none [] (.sl .ow 24 (a.World.Daemons.map XDaemon.row)), .vw none [] (.sl .ow 17 (a.World.Letters.map XLetter.row)), .vw none [] (.sl .ow 8 (a.World.Numbered.map XEvent.row)), .vw none [] (.sl .ow 11 (a.Callers.map XCaller.row)), .vw none [] (.sl .ow 1 (a.Tables.map XTable.row)), .vw none [] (.sl .ow 1 (a.Seen.map intR))]
def XHall.own (a : XHall) : List Cl := [.ow (.sl .ow 2 (a.World.Rings.map XRing.row)), .ow (.sl .ow 24 (a.World.Daemons.map XDaemon.row)), .ow (.sl .ow 17 (a.World.Letters.map XLetter.row)), .ow (.sl .ow 8 (a.World.Numbered.map XEvent.row)), .ow (.sl .ow 11 (a.Callers.map XCaller.row)), .ow (.sl .ow 1 (a.Tables.map XTable.row)), .ow (.sl .ow 1 (a.Seen.map intR))]
def XHall.ms (a : XHall) : Nat := a.World.ms + msL XCaller.ms a.Callers + msL XTable.ms a.Tables + a.Seen.length
def XHall.zero : XHall := ⟨XWorld.zero, [], [], []⟩
def XHall.ct (a : XHall) : Nat := cntL XRing.ct a.World.Rings + cntL XDaemon.ct a.World.Daemons + cntL XLetter.ct a.World.Letters + cntL XEvent.ct a.World.Numbered + cntL XCaller.ct a.Callers + cntL XTable.ct a.Tables + cntL (fun _ => 1) a.Seen
def XHall.mrk (k : Nat) (a : XHall) : XHall := ⟨⟨(mkL XRing.mrk XRing.ct (k) a.World.Rings), (mkL XDaemon.mrk XDaemon.ct (k + cntL XRing.ct a.World.Rings) a.World.Daemons), (mkL XLetter.mrk XLetter.ct (k + cntL XRing.ct a.World.Rings + cntL XDaemon.ct a.World.Daemons) a.World.Letters), (mkL XEvent.mrk XEvent.ct (k + cntL XRing.ct a.World.Rings + cntL XDaemon.ct a.World.Daemons + cntL XLetter.ct a.World.Letters) a.World.Numbered)⟩, (mkL XCaller.mrk XCaller.ct (k + cntL XRing.ct a.World.Rings + cntL XDaemon.ct a.World.Daemons + cntL XLetter.ct a.World.Letters + cntL XEvent.ct a.World.Numbered) a.Callers), (mkL XTable.mrk XTable.ct (k + cntL XRing.ct a.World.Rings + cntL XDaemon.ct a.World.Daemons + cntL XLetter.ct a.World.Letters + cntL XEvent.ct a.World.Numbered + cntL XCaller.ct a.Callers) a.Tables), (mkL (fun n _ => (n : Int)) (fun _ => 1) (k + cntL XRing.ct a.World.Rings + cntL XDaemon.ct a.World.Daemons + cntL XLetter.ct a.World.Letters + cntL XEvent.ct a.World.Numbered + cntL XCaller.ct a.Callers + cntL XTable.ct a.Tables) a.Seen)⟩
theorem ct_Hall (a : XHall) : a.ct ≤ 64 * (a.ms + 1) := by
  have h0 := cntL_le XRing.ct XRing.ms ct_Ring a.World.Rings
  have h1 := cntL_le XDaemon.ct XDaemon.ms ct_Daemon a.World.Daemons
  have h2 := cntL_le XLetter.ct XLetter.ms ct_Letter a.World.Letters
  have h3 := cntL_le XEvent.ct XEvent.ms ct_Event a.World.Numbered
  have h4 := cntL_le XCaller.ct XCaller.ms ct_Caller a.Callers
  have h5 := cntL_le XTable.ct XTable.ms ct_Table a.Tables
  have h6 := cnt1_le a.Seen
  simp only [XHall.ct, XHall.ms, XWorld.ms]
  omega
def XHall.vct (a : XHall) : Nat := cntL XRing.ct a.World.Rings + cntL XDaemon.ct a.World.Daemons + cntL XLetter.ct a.World.Letters + cntL XEvent.ct a.World.Numbered + cntL XCaller.ct a.Callers + cntL XTable.ct a.Tables + cntL (fun _ => 1) a.Seen
def XHall.vmk (k : Nat) (a : XHall) : XHall := ⟨⟨(mkL XRing.mrk XRing.ct (k) a.World.Rings), (mkL XDaemon.mrk XDaemon.ct (k + cntL XRing.ct a.World.Rings) a.World.Daemons), (mkL XLetter.mrk XLetter.ct (k + cntL XRing.ct a.World.Rings + cntL XDaemon.ct a.World.Daemons) a.World.Letters), (mkL XEvent.mrk XEvent.ct (k + cntL XRing.ct a.World.Rings + cntL XDaemon.ct a.World.Daemons + cntL XLetter.ct a.World.Letters) a.World.Numbered)⟩, (mkL XCaller.mrk XCaller.ct (k + cntL XRing.ct a.World.Rings + cntL XDaemon.ct a.World.Daemons + cntL XLetter.ct a.World.Letters + cntL XEvent.ct a.World.Numbered) a.Callers), (mkL XTable.mrk XTable.ct (k + cntL XRing.ct a.World.Rings + cntL XDaemon.ct a.World.Daemons + cntL XLetter.ct a.World.Letters + cntL XEvent.ct a.World.Numbered + cntL XCaller.ct a.Callers) a.Tables), (mkL (fun n _ => (n : Int)) (fun _ => 1) (k + cntL XRing.ct a.World.Rings + cntL XDaemon.ct a.World.Daemons + cntL XLetter.ct a.World.Letters + cntL XEvent.ct a.World.Numbered + cntL XCaller.ct a.Callers + cntL XTable.ct a.Tables) a.Seen)⟩
theorem vct_Hall (a : XHall) : a.vct ≤ 64 * a.ms := by
  have h0 := cntL_le XRing.ct XRing.ms ct_Ring a.World.Rings
  have h1 := cntL_le XDaemon.ct XDaemon.ms ct_Daemon a.World.Daemons
  have h2 := cntL_le XLetter.ct XLetter.ms ct_Letter a.World.Letters
  have h3 := cntL_le XEvent.ct XEvent.ms ct_Event a.World.Numbered
  have h4 := cntL_le XCaller.ct XCaller.ms ct_Caller a.Callers
  have h5 := cntL_le XTable.ct XTable.ms ct_Table a.Tables
  have h6 := cnt1_le a.Seen
  simp only [XHall.vct, XHall.ms, XWorld.ms]
  omega
end Go.Eng

set_option maxRecDepth 100000
namespace Go.Eng
open Go.Proofs
noncomputable def c_laws_heldStringS : ACode := (.seq (.reg false [⟨none, .tk 4 (.k (.i .i64 0)), []⟩] [0, 1]) (.seq (.seq (.reg false [⟨none, .asg 5 (.k (.i .i64 0)), []⟩] [0, 1, 5]) (.block 0 (.loop [0, 1, 5] (.seq (.seq (.reg false [⟨none, .p 6 (.mv (.t 5)), []⟩, ⟨none, .p 7 (.mv (.t 0)), []⟩, ⟨none, .p 8 (.len false (.t 7)), []⟩, ⟨none, .p 9 (.bin .lss (.t 6) (.t 8)), []⟩] [0, 1, 5, 9]) (.cond (.t 9) .skip (.exit 0 [1]))) (.seq (.block 1 (.seq (.seq (.reg true [⟨none, .p 12 (.mv (.t 0)), []⟩, ⟨none, .p 13 (.mv (.t 5)), []⟩, ⟨none, .p 14 (.ia (.t 12) (.t 13) 1), [0, 1]⟩, ⟨none, .p 15 (.ld (.t 14) 0 1 false), [2]⟩, ⟨none, .p 16 (.mv (.t 1)), []⟩, ⟨none, .call (some 17) 40 [.rd (.t 16)], [4]⟩, ⟨none, .p 18 (.bin .neq (.t 15) (.t 17)), [3, 5]⟩] [0, 1, 5, 18]) (.cond (.t 18) (.seq (.reg false [⟨none, .tk 4 (.k (.i .i64 (-1))), []⟩] [4]) .ret) .skip)) (.reg false [⟨none, .p 19 (.mv (.t 1)), []⟩, ⟨none, .p 20 (.bin .add (.t 19) (.k (.i .i64 1))), []⟩, ⟨none, .asg 1 (.t 20), []⟩] [0, 1, 5]))) (.reg false [⟨none, .p 10 (.mv (.t 5)), []⟩, ⟨none, .p 11 (.bin .add (.t 10) (.k (.i .i64 1))), []⟩, ⟨none, .asg 5 (.t 11), []⟩] [0, 1, 5])))))) (.seq (.reg false [⟨none, .p 21 (.mv (.t 1)), []⟩, ⟨none, .tk 4 (.t 21), []⟩] [4]) .ret)))
theorem code_laws_heldStringS : ∃ c, Tryz.f13.body = some c ∧ cfit PP 22 c c_laws_heldStringS = true := by
  refine ⟨_, (rfl : Tryz.f13.body = some _), ?_⟩
  kernel_rfl
theorem t_heldStringS {G : Glob} (xs : List ByteArray) (k : Nat) (hk : k + cntL (fun _ => 1) xs ≤ 1073741824) : FnD PP G 13 [.val false [.vw none [] (.sl .ow 1 ((mkL (fun n _ => markB n) (fun _ => 1) k xs).map strR))], .val false [.ow (.lit (.int .i64 k))]] [] []
    [.v false [.ow (.lit (.int .i64 (k + cntL (fun _ => 1) xs : Nat)))]] [] [] := by
  refine fn_bd fun hbd => ?_
  have hx : (mkL (fun n _ => markB n) (fun _ => 1) k xs).length ≤ 281474976710656 := hbd _ (by simp [hdsA, lenT, Cl.tree])
  rw [mkL_len] at hx
  clear hbd
  obtain ⟨cc, hb, hcf⟩ := code_laws_heldStringS
  refine fn_ok (fn := Tryz.f13) (specs := [.t 4]) (by kernel_rfl) hb (by show (22:Nat) ≤ 10000; omega) hcf (by kernel_rfl) (by show (2:Nat) ≤ 22; omega) (by simp) (by simp) rfl rfl (by simp) rfl ?_
  simp only [c_laws_heldStringS]
  simp only [push_cast, ↓reduceIte, Nat.reduceEqDiff, Nat.reduceLT, Nat.reduceLeDiff, Nat.reduceAdd, Nat.reduceMul, Nat.reduceSub, Nat.reduceDiv, Nat.reduceMod, Nat.reduceBEq, reduceCtorEq, Int.toNat_natCast, Int.reduceToNat, Option.some.injEq, Nat.le_refl, List.take_length]
  refine cwp_loop (fun i : Nat => ⟨[(0, .val false [.vw none [] (.sl .ow 1 ((mkL (fun n _ => markB n) (fun _ => 1) k xs).map strR))]), (1, .val false [.ow (.lit (.int .i64 (k + cntL (fun _ => 1) (xs.take i) : Nat)))]), (5, .val false [.ow (.lit (.int .i64 i))])], []⟩)
    (fun i => i ≤ xs.length) (fun i => xs.length - i) 0 rfl (by simp [cntL]; rfl) (by omega) ?_
  intro i hle
  have hlen : (mkL (fun n _ => markB n) (fun _ => 1) k xs).length = xs.length := mkL_len _ _ _ _
  by_cases hi : i < xs.length
  · have hi2 : i < (mkL (fun n _ => markB n) (fun _ => 1) k xs).length := by omega
    have hget : (mkL (fun n _ => markB n) (fun _ => 1) k xs)[i] = (fun n _ => markB n) (k + cntL (fun _ => 1) (xs.take i)) xs[i] := mkL_get _ _ _ _ _ hi _
    have hcl : k + cntL (fun _ => 1) (xs.take (i + 1)) = (k + cntL (fun _ => 1) (xs.take i)) + (fun _ => 1) xs[i] := cnt_step (fun _ => 1) xs k i hi
    have hKb : (k + cntL (fun _ => 1) (xs.take i)) + (fun _ => 1) xs[i] ≤ 1073741824 := Nat.le_trans (cnt_le (fun _ => 1) xs k i hi) hk
    generalize k + cntL (fun _ => 1) (xs.take i) = K at hcl hKb hget ⊢
    try simp only [Nat.add_zero] at hKb
    simp only [push_cast, ↓reduceIte, Nat.reduceEqDiff, Nat.reduceLT, Nat.reduceLeDiff, Nat.reduceAdd, Nat.reduceMul, Nat.reduceSub, Nat.reduceDiv, Nat.reduceMod, Nat.reduceBEq, reduceCtorEq, Int.toNat_natCast, Int.reduceToNat, Option.some.injEq, Nat.le_refl, List.take_length, getD_map hi2, hget, strR]
    refine cnd_dec (fun hlt => ?_) (fun hge => by omega)
    simp only [push_cast, ↓reduceIte, Nat.reduceEqDiff, Nat.reduceLT, Nat.reduceLeDiff, Nat.reduceAdd, Nat.reduceMul, Nat.reduceSub, Nat.reduceDiv, Nat.reduceMod, Nat.reduceBEq, reduceCtorEq, Int.toNat_natCast, Int.reduceToNat, Option.some.injEq, Nat.le_refl, List.take_length, getD_map hi2, hget, strR]
    try simp (disch := omega) only [wrap64]
    refine draw_any ?_
    simp only [push_cast, ↓reduceIte, Nat.reduceEqDiff, Nat.reduceLT, Nat.reduceLeDiff, Nat.reduceAdd, Nat.reduceMul, Nat.reduceSub, Nat.reduceDiv, Nat.reduceMod, Nat.reduceBEq, reduceCtorEq, Int.toNat_natCast, Int.reduceToNat, Option.some.injEq, Nat.le_refl, List.take_length, getD_map hi2, hget, strR]
    try simp (disch := omega) only [wrap64]
    repeat (first | refine And.intro (by omega) ?_ | refine And.intro ⟨by omega, by omega⟩ ?_ | refine And.intro ⟨by omega, by omega, by omega⟩ ?_)
    have hc := t_markText (G := G) (K) (by omega)
    try simp only [Int.natCast_add, Int.cast_ofNat_Int, Int.natCast_one] at hc
    refine call_ok hc ?_
    clear hc
    simp only [push_cast, ↓reduceIte, Nat.reduceEqDiff, Nat.reduceLT, Nat.reduceLeDiff, Nat.reduceAdd, Nat.reduceMul, Nat.reduceSub, Nat.reduceDiv, Nat.reduceMod, Nat.reduceBEq, reduceCtorEq, Int.toNat_natCast, Int.reduceToNat, Option.some.injEq, Nat.le_refl, List.take_length, getD_map hi2, hget, strR]
    refine ⟨by kernel_rfl, ?_⟩
    try simp (disch := omega) only [wrap64]
    refine ⟨i + 1, ?_, by omega, by omega⟩
    have hcl2 := congrArg (fun x : Nat => (x : Int)) hcl
    try simp only [Nat.add_zero, Int.natCast_add, Int.cast_ofNat_Int, Int.natCast_one] at hcl2
    try simp only [Int.natCast_add, Int.cast_ofNat_Int, Int.natCast_one]
    rw [hcl2]
    try simp only [Int.add_assoc]
  · have hi : i = xs.length := by omega
    subst hi
    rw [List.take_length]
    simp only [push_cast, ↓reduceIte, Nat.reduceEqDiff, Nat.reduceLT, Nat.reduceLeDiff, Nat.reduceAdd, Nat.reduceMul, Nat.reduceSub, Nat.reduceDiv, Nat.reduceMod, Nat.reduceBEq, reduceCtorEq, Int.toNat_natCast, Int.reduceToNat, Option.some.injEq, Nat.le_refl, List.take_length]
    refine cnd_dec (fun hlt => ?_) (fun hge => ?_)
    · omega
    simp only [push_cast, ↓reduceIte, Nat.reduceEqDiff, Nat.reduceLT, Nat.reduceLeDiff, Nat.reduceAdd, Nat.reduceMul, Nat.reduceSub, Nat.reduceDiv, Nat.reduceMod, Nat.reduceBEq, reduceCtorEq, Int.toNat_natCast, Int.reduceToNat, Option.some.injEq, Nat.le_refl, List.take_length]

end Go.Eng

set_option maxRecDepth 100000
namespace Go.Eng
open Go.Proofs

theorem of_int (rows : List Row) (h : ∀ row ∈ rows, tyR [.int] row) : ∃ xs : List Int, rows = xs.map intR :=
  of_list (fun row h => by simp only [tyR, tyT] at h; obtain ⟨t, r, rfl, ⟨n, rfl⟩, rfl⟩ := h; exact ⟨n, rfl⟩) rows h
theorem of_str (rows : List Row) (h : ∀ row ∈ rows, tyR [.str] row) : ∃ xs : List ByteArray, rows = xs.map strR :=
  of_list (fun row h => by simp only [tyR, tyT] at h; obtain ⟨t, r, rfl, ⟨n, rfl⟩, rfl⟩ := h; exact ⟨n, rfl⟩) rows h
theorem bk_list {α : Type} {f : α → Row} {m : α → Nat} (h : ∀ a, m a + 1 ≤ bkRow (f a)) (xs : List α) : msL m xs ≤ bkRows (xs.map f) := by
  induction xs with
  | nil => simp [msL]
  | cons a l ih =>
    have := h a
    simp only [msL, List.length_cons, List.map_cons, List.sum_cons, bkRows] at ih ⊢
    omega
theorem bk_ints (xs : List Int) : xs.length ≤ bkRows (xs.map intR) := by
  induction xs with
  | nil => simp
  | cons a l ih => simp only [List.length_cons, List.map_cons, bkRows, intR, bkRow, bkT]; omega
theorem bk_strs (xs : List ByteArray) : msL ByteArray.size xs ≤ bkRows (xs.map strR) := bk_list (fun s => by simp only [strR, bkRow, bkT]; omega) xs
def XReader.tys : List CT := [.str, .bool]
theorem XReader.vw_eq (a : XReader) : a.row.map vwT = a.vw := rfl
theorem of_Reader (row : Row) (h : tyR XReader.tys row) : ∃ a : XReader, row = a.row := by
  simp only [XReader.tys, tyR, tyT] at h
  obtain ⟨t0, r0, e0, q0, h⟩ := h
  obtain ⟨t1, r1, e1, q1, h⟩ := h
  obtain ⟨x0, rfl⟩ := q0
  obtain ⟨x1, rfl⟩ := q1
  subst h; subst e1; subst e0
  exact ⟨⟨x0, x1⟩, rfl⟩
theorem bk_Reader (a : XReader) : a.ms + 1 ≤ bkRow a.row := by
  simp only [XReader.ms, XReader.row, bkRow, bkT]
  omega
def XItem.tys : List CT := [.int, .int, .int, .str]
theorem XItem.vw_eq (a : XItem) : a.row.map vwT = a.vw := rfl
theorem of_Item (row : Row) (h : tyR XItem.tys row) : ∃ a : XItem, row = a.row := by
  simp only [XItem.tys, tyR, tyT] at h
  obtain ⟨t0, r0, e0, q0, h⟩ := h
  obtain ⟨t1, r1, e1, q1, h⟩ := h
  obtain ⟨t2, r2, e2, q2, h⟩ := h
  obtain ⟨t3, r3, e3, q3, h⟩ := h
  obtain ⟨x0, rfl⟩ := q0
  obtain ⟨x1, rfl⟩ := q1
  obtain ⟨x2, rfl⟩ := q2
  obtain ⟨x3, rfl⟩ := q3
  subst h; subst e3; subst e2; subst e1; subst e0
  exact ⟨⟨x0, x1, x2, x3⟩, rfl⟩
theorem bk_Item (a : XItem) : a.ms + 1 ≤ bkRow a.row := by
  simp only [XItem.ms, XItem.row, bkRow, bkT]
  omega
def XToken.tys : List CT := [.int, .int, .int, .int, .int, .sl [.int]]
theorem XToken.vw_eq (a : XToken) : a.row.map vwT = a.vw := rfl
theorem of_Token (row : Row) (h : tyR XToken.tys row) : ∃ a : XToken, row = a.row := by
  simp only [XToken.tys, tyR, tyT] at h
  obtain ⟨t0, r0, e0, q0, h⟩ := h
  obtain ⟨t1, r1, e1, q1, h⟩ := h
  obtain ⟨t2, r2, e2, q2, h⟩ := h
  obtain ⟨t3, r3, e3, q3, h⟩ := h
  obtain ⟨t4, r4, e4, q4, h⟩ := h
  obtain ⟨t5, r5, e5, q5, h⟩ := h
  obtain ⟨x0, rfl⟩ := q0
  obtain ⟨x1, rfl⟩ := q1
  obtain ⟨x2, rfl⟩ := q2
  obtain ⟨x3, rfl⟩ := q3
  obtain ⟨x4, rfl⟩ := q4
  obtain ⟨s5, rfl, q5⟩ := q5
  obtain ⟨x5, rfl⟩ := of_int s5 q5
  subst h; subst e5; subst e4; subst e3; subst e2; subst e1; subst e0
  exact ⟨⟨x0, x1, x2, x3, x4, x5⟩, rfl⟩
theorem bk_Token (a : XToken) : a.ms + 1 ≤ bkRow a.row := by
  have h0 := bk_ints a.Wants
  simp only [XToken.ms, XToken.row, bkRow, bkT]
  omega
def XRing.tys : List CT := [.int, .sl [.int]]
theorem XRing.vw_eq (a : XRing) : a.row.map vwT = a.vw := rfl
theorem of_Ring (row : Row) (h : tyR XRing.tys row) : ∃ a : XRing, row = a.row := by
  simp only [XRing.tys, tyR, tyT] at h
  obtain ⟨t0, r0, e0, q0, h⟩ := h
  obtain ⟨t1, r1, e1, q1, h⟩ := h
  obtain ⟨x0, rfl⟩ := q0
  obtain ⟨s1, rfl, q1⟩ := q1
  obtain ⟨x1, rfl⟩ := of_int s1 q1
  subst h; subst e1; subst e0
  exact ⟨⟨x0, x1⟩, rfl⟩
theorem bk_Ring (a : XRing) : a.ms + 1 ≤ bkRow a.row := by
  have h0 := bk_ints a.Members
  simp only [XRing.ms, XRing.row, bkRow, bkT]
  omega
def XMate.tys : List CT := [.int, .int, .sl [.int], .sl XItem.tys, .sl [.int], .sl [.str], .int, .int, .int, .int, .int, .int, .int, .int, .int, .sl [.int]]
theorem XMate.vw_eq (a : XMate) : a.row.map vwT = a.vw := rfl
theorem of_Mate (row : Row) (h : tyR XMate.tys row) : ∃ a : XMate, row = a.row := by
  simp only [XMate.tys, tyR, tyT] at h
  obtain ⟨t0, r0, e0, q0, h⟩ := h
  obtain ⟨t1, r1, e1, q1, h⟩ := h
  obtain ⟨t2, r2, e2, q2, h⟩ := h
  obtain ⟨t3, r3, e3, q3, h⟩ := h
  obtain ⟨t4, r4, e4, q4, h⟩ := h
  obtain ⟨t5, r5, e5, q5, h⟩ := h
  obtain ⟨t6, r6, e6, q6, h⟩ := h
  obtain ⟨t7, r7, e7, q7, h⟩ := h
  obtain ⟨t8, r8, e8, q8, h⟩ := h
  obtain ⟨t9, r9, e9, q9, h⟩ := h
  obtain ⟨t10, r10, e10, q10, h⟩ := h
  obtain ⟨t11, r11, e11, q11, h⟩ := h
  obtain ⟨t12, r12, e12, q12, h⟩ := h
  obtain ⟨t13, r13, e13, q13, h⟩ := h
  obtain ⟨t14, r14, e14, q14, h⟩ := h
  obtain ⟨t15, r15, e15, q15, h⟩ := h
  obtain ⟨x0, rfl⟩ := q0
  obtain ⟨x1, rfl⟩ := q1
  obtain ⟨s2, rfl, q2⟩ := q2
  obtain ⟨x2, rfl⟩ := of_int s2 q2
  obtain ⟨s3, rfl, q3⟩ := q3
  obtain ⟨x3, rfl⟩ := of_list of_Item s3 q3
  obtain ⟨s4, rfl, q4⟩ := q4
  obtain ⟨x4, rfl⟩ := of_int s4 q4
  obtain ⟨s5, rfl, q5⟩ := q5
  obtain ⟨x5, rfl⟩ := of_str s5 q5
  obtain ⟨x6, rfl⟩ := q6
  obtain ⟨x7, rfl⟩ := q7
  obtain ⟨x8, rfl⟩ := q8
  obtain ⟨x9, rfl⟩ := q9
  obtain ⟨x10, rfl⟩ := q10
  obtain ⟨x11, rfl⟩ := q11
  obtain ⟨x12, rfl⟩ := q12
  obtain ⟨x13, rfl⟩ := q13
  obtain ⟨x14, rfl⟩ := q14
  obtain ⟨s15, rfl, q15⟩ := q15
  obtain ⟨x15, rfl⟩ := of_int s15 q15
  subst h; subst e15; subst e14; subst e13; subst e12; subst e11; subst e10; subst e9; subst e8; subst e7; subst e6; subst e5; subst e4; subst e3; subst e2; subst e1; subst e0
  exact ⟨⟨x0, ⟨x1, x2⟩, x3, x4, x5, x6, x7, x8, x9, ⟨x10, x11, x12, x13, x14, x15⟩⟩, rfl⟩
theorem bk_Mate (a : XMate) : a.ms + 1 ≤ bkRow a.row := by
  have h0 := bk_ints a.Ring.Members
  have h1 := bk_list bk_Item a.Items
  have h2 := bk_ints a.Level
  have h3 := bk_strs a.Texts
  have h4 := bk_ints a.Last.Wants
  simp only [XMate.ms, XMate.row, bkRow, bkT, XRing.ms, XToken.ms]
  omega
def XBundle.tys : List CT := [.int, .int, .int, .sl XItem.tys]
theorem XBundle.vw_eq (a : XBundle) : a.row.map vwT = a.vw := rfl
theorem of_Bundle (row : Row) (h : tyR XBundle.tys row) : ∃ a : XBundle, row = a.row := by
  simp only [XBundle.tys, tyR, tyT] at h
  obtain ⟨t0, r0, e0, q0, h⟩ := h
  obtain ⟨t1, r1, e1, q1, h⟩ := h
  obtain ⟨t2, r2, e2, q2, h⟩ := h
  obtain ⟨t3, r3, e3, q3, h⟩ := h
  obtain ⟨x0, rfl⟩ := q0
  obtain ⟨x1, rfl⟩ := q1
  obtain ⟨x2, rfl⟩ := q2
  obtain ⟨s3, rfl, q3⟩ := q3
  obtain ⟨x3, rfl⟩ := of_list of_Item s3 q3
  subst h; subst e3; subst e2; subst e1; subst e0
  exact ⟨⟨x0, x1, x2, x3⟩, rfl⟩
theorem bk_Bundle (a : XBundle) : a.ms + 1 ≤ bkRow a.row := by
  have h0 := bk_list bk_Item a.Items
  simp only [XBundle.ms, XBundle.row, bkRow, bkT]
  omega
def XEvent.tys : List CT := [.int, .int, .sl [.int], .int, .int, .int, .str, .sl [.int]]
theorem XEvent.vw_eq (a : XEvent) : a.row.map vwT = a.vw := rfl
theorem of_Event (row : Row) (h : tyR XEvent.tys row) : ∃ a : XEvent, row = a.row := by
  simp only [XEvent.tys, tyR, tyT] at h
  obtain ⟨t0, r0, e0, q0, h⟩ := h
  obtain ⟨t1, r1, e1, q1, h⟩ := h
  obtain ⟨t2, r2, e2, q2, h⟩ := h
  obtain ⟨t3, r3, e3, q3, h⟩ := h
  obtain ⟨t4, r4, e4, q4, h⟩ := h
  obtain ⟨t5, r5, e5, q5, h⟩ := h
  obtain ⟨t6, r6, e6, q6, h⟩ := h
  obtain ⟨t7, r7, e7, q7, h⟩ := h
  obtain ⟨x0, rfl⟩ := q0
  obtain ⟨x1, rfl⟩ := q1
  obtain ⟨s2, rfl, q2⟩ := q2
  obtain ⟨x2, rfl⟩ := of_int s2 q2
  obtain ⟨x3, rfl⟩ := q3
  obtain ⟨x4, rfl⟩ := q4
  obtain ⟨x5, rfl⟩ := q5
  obtain ⟨x6, rfl⟩ := q6
  obtain ⟨s7, rfl, q7⟩ := q7
  obtain ⟨x7, rfl⟩ := of_int s7 q7
  subst h; subst e7; subst e6; subst e5; subst e4; subst e3; subst e2; subst e1; subst e0
  exact ⟨⟨x0, ⟨x1, x2⟩, ⟨x3, x4, x5, x6⟩, x7⟩, rfl⟩
theorem bk_Event (a : XEvent) : a.ms + 1 ≤ bkRow a.row := by
  have h0 := bk_ints a.Ring.Members
  have h1 := bk_ints a.With
  simp only [XEvent.ms, XEvent.row, bkRow, bkT, XItem.ms, XRing.ms]
  omega
def XDaemon.tys : List CT := [.int, .bool, .int, .int, .sl [.int], .sl XItem.tys, .sl [.int], .sl [.str], .int, .int, .int, .int, .int, .int, .int, .int, .int, .sl [.int], .int, .int, .int, .sl [.int], .sl XBundle.tys, .sl XEvent.tys]
theorem XDaemon.vw_eq (a : XDaemon) : a.row.map vwT = a.vw := rfl
theorem of_Daemon (row : Row) (h : tyR XDaemon.tys row) : ∃ a : XDaemon, row = a.row := by
  simp only [XDaemon.tys, tyR, tyT] at h
  obtain ⟨t0, r0, e0, q0, h⟩ := h
  obtain ⟨t1, r1, e1, q1, h⟩ := h
  obtain ⟨t2, r2, e2, q2, h⟩ := h
  obtain ⟨t3, r3, e3, q3, h⟩ := h
  obtain ⟨t4, r4, e4, q4, h⟩ := h
  obtain ⟨t5, r5, e5, q5, h⟩ := h
  obtain ⟨t6, r6, e6, q6, h⟩ := h
  obtain ⟨t7, r7, e7, q7, h⟩ := h
  obtain ⟨t8, r8, e8, q8, h⟩ := h
  obtain ⟨t9, r9, e9, q9, h⟩ := h
  obtain ⟨t10, r10, e10, q10, h⟩ := h
  obtain ⟨t11, r11, e11, q11, h⟩ := h
  obtain ⟨t12, r12, e12, q12, h⟩ := h
  obtain ⟨t13, r13, e13, q13, h⟩ := h
  obtain ⟨t14, r14, e14, q14, h⟩ := h
  obtain ⟨t15, r15, e15, q15, h⟩ := h
  obtain ⟨t16, r16, e16, q16, h⟩ := h
  obtain ⟨t17, r17, e17, q17, h⟩ := h
  obtain ⟨t18, r18, e18, q18, h⟩ := h
  obtain ⟨t19, r19, e19, q19, h⟩ := h
  obtain ⟨t20, r20, e20, q20, h⟩ := h
  obtain ⟨t21, r21, e21, q21, h⟩ := h
  obtain ⟨t22, r22, e22, q22, h⟩ := h
  obtain ⟨t23, r23, e23, q23, h⟩ := h
  obtain ⟨x0, rfl⟩ := q0
  obtain ⟨x1, rfl⟩ := q1
  obtain ⟨x2, rfl⟩ := q2
  obtain ⟨x3, rfl⟩ := q3
  obtain ⟨s4, rfl, q4⟩ := q4
  obtain ⟨x4, rfl⟩ := of_int s4 q4
  obtain ⟨s5, rfl, q5⟩ := q5
  obtain ⟨x5, rfl⟩ := of_list of_Item s5 q5
  obtain ⟨s6, rfl, q6⟩ := q6
  obtain ⟨x6, rfl⟩ := of_int s6 q6
  obtain ⟨s7, rfl, q7⟩ := q7
  obtain ⟨x7, rfl⟩ := of_str s7 q7
  obtain ⟨x8, rfl⟩ := q8
  obtain ⟨x9, rfl⟩ := q9
  obtain ⟨x10, rfl⟩ := q10
  obtain ⟨x11, rfl⟩ := q11
  obtain ⟨x12, rfl⟩ := q12
  obtain ⟨x13, rfl⟩ := q13
  obtain ⟨x14, rfl⟩ := q14
  obtain ⟨x15, rfl⟩ := q15
  obtain ⟨x16, rfl⟩ := q16
  obtain ⟨s17, rfl, q17⟩ := q17
  obtain ⟨x17, rfl⟩ := of_int s17 q17
  obtain ⟨x18, rfl⟩ := q18
  obtain ⟨x19, rfl⟩ := q19
  obtain ⟨x20, rfl⟩ := q20
  obtain ⟨s21, rfl, q21⟩ := q21
  obtain ⟨x21, rfl⟩ := of_int s21 q21
  obtain ⟨s22, rfl, q22⟩ := q22
  obtain ⟨x22, rfl⟩ := of_list of_Bundle s22 q22
  obtain ⟨s23, rfl, q23⟩ := q23
  obtain ⟨x23, rfl⟩ := of_list of_Event s23 q23
  subst h; subst e23; subst e22; subst e21; subst e20; subst e19; subst e18; subst e17; subst e16; subst e15; subst e14; subst e13; subst e12; subst e11; subst e10; subst e9; subst e8; subst e7; subst e6; subst e5; subst e4; subst e3; subst e2; subst e1; subst e0
  exact ⟨⟨x0, x1, ⟨x2, ⟨x3, x4⟩, x5, x6, x7, x8, x9, x10, x11, ⟨x12, x13, x14, x15, x16, x17⟩⟩, x18, x19, ⟨x20, x21⟩, x22, x23⟩, rfl⟩
theorem bk_Daemon (a : XDaemon) : a.ms + 1 ≤ bkRow a.row := by
  have h0 := bk_ints a.Mate.Ring.Members
  have h1 := bk_list bk_Item a.Mate.Items
  have h2 := bk_ints a.Mate.Level
  have h3 := bk_strs a.Mate.Texts
  have h4 := bk_ints a.Mate.Last.Wants
  have h5 := bk_ints a.Joining.Members
  have h6 := bk_list bk_Bundle a.Bundles
  have h7 := bk_list bk_Event a.Log
  simp only [XDaemon.ms, XDaemon.row, bkRow, bkT, XMate.ms, XRing.ms, XToken.ms]
  omega
def XLetter.tys : List CT := [.int, .int, .int, .int, .int, .int, .str, .int, .int, .int, .int, .int, .sl [.int], .int, .int, .int, .sl XItem.tys]
theorem XLetter.vw_eq (a : XLetter) : a.row.map vwT = a.vw := rfl
theorem of_Letter (row : Row) (h : tyR XLetter.tys row) : ∃ a : XLetter, row = a.row := by
  simp only [XLetter.tys, tyR, tyT] at h
  obtain ⟨t0, r0, e0, q0, h⟩ := h
  obtain ⟨t1, r1, e1, q1, h⟩ := h
  obtain ⟨t2, r2, e2, q2, h⟩ := h
  obtain ⟨t3, r3, e3, q3, h⟩ := h
  obtain ⟨t4, r4, e4, q4, h⟩ := h
  obtain ⟨t5, r5, e5, q5, h⟩ := h
  obtain ⟨t6, r6, e6, q6, h⟩ := h
  obtain ⟨t7, r7, e7, q7, h⟩ := h
  obtain ⟨t8, r8, e8, q8, h⟩ := h
  obtain ⟨t9, r9, e9, q9, h⟩ := h
  obtain ⟨t10, r10, e10, q10, h⟩ := h
  obtain ⟨t11, r11, e11, q11, h⟩ := h
  obtain ⟨t12, r12, e12, q12, h⟩ := h
  obtain ⟨t13, r13, e13, q13, h⟩ := h
  obtain ⟨t14, r14, e14, q14, h⟩ := h
  obtain ⟨t15, r15, e15, q15, h⟩ := h
  obtain ⟨t16, r16, e16, q16, h⟩ := h
  obtain ⟨x0, rfl⟩ := q0
  obtain ⟨x1, rfl⟩ := q1
  obtain ⟨x2, rfl⟩ := q2
  obtain ⟨x3, rfl⟩ := q3
  obtain ⟨x4, rfl⟩ := q4
  obtain ⟨x5, rfl⟩ := q5
  obtain ⟨x6, rfl⟩ := q6
  obtain ⟨x7, rfl⟩ := q7
  obtain ⟨x8, rfl⟩ := q8
  obtain ⟨x9, rfl⟩ := q9
  obtain ⟨x10, rfl⟩ := q10
  obtain ⟨x11, rfl⟩ := q11
  obtain ⟨s12, rfl, q12⟩ := q12
  obtain ⟨x12, rfl⟩ := of_int s12 q12
  obtain ⟨x13, rfl⟩ := q13
  obtain ⟨x14, rfl⟩ := q14
  obtain ⟨x15, rfl⟩ := q15
  obtain ⟨s16, rfl, q16⟩ := q16
  obtain ⟨x16, rfl⟩ := of_list of_Item s16 q16
  subst h; subst e16; subst e15; subst e14; subst e13; subst e12; subst e11; subst e10; subst e9; subst e8; subst e7; subst e6; subst e5; subst e4; subst e3; subst e2; subst e1; subst e0
  exact ⟨⟨x0, x1, x2, ⟨x3, x4, x5, x6⟩, ⟨x7, x8, x9, x10, x11, x12⟩, ⟨x13, x14, x15, x16⟩⟩, rfl⟩
theorem bk_Letter (a : XLetter) : a.ms + 1 ≤ bkRow a.row := by
  have h0 := bk_ints a.Token.Wants
  have h1 := bk_list bk_Item a.Bundle.Items
  simp only [XLetter.ms, XLetter.row, bkRow, bkT, XBundle.ms, XItem.ms, XToken.ms]
  omega
def XWorld.tys : List CT := [.sl XRing.tys, .sl XDaemon.tys, .sl XLetter.tys, .sl XEvent.tys]
theorem XWorld.vw_eq (a : XWorld) : a.row.map vwT = a.vw := rfl
theorem of_World (row : Row) (h : tyR XWorld.tys row) : ∃ a : XWorld, row = a.row := by
  simp only [XWorld.tys, tyR, tyT] at h
  obtain ⟨t0, r0, e0, q0, h⟩ := h
  obtain ⟨t1, r1, e1, q1, h⟩ := h
  obtain ⟨t2, r2, e2, q2, h⟩ := h
  obtain ⟨t3, r3, e3, q3, h⟩ := h
  obtain ⟨s0, rfl, q0⟩ := q0
  obtain ⟨x0, rfl⟩ := of_list of_Ring s0 q0
  obtain ⟨s1, rfl, q1⟩ := q1
  obtain ⟨x1, rfl⟩ := of_list of_Daemon s1 q1
  obtain ⟨s2, rfl, q2⟩ := q2
  obtain ⟨x2, rfl⟩ := of_list of_Letter s2 q2
  obtain ⟨s3, rfl, q3⟩ := q3
  obtain ⟨x3, rfl⟩ := of_list of_Event s3 q3
  subst h; subst e3; subst e2; subst e1; subst e0
  exact ⟨⟨x0, x1, x2, x3⟩, rfl⟩
theorem bk_World (a : XWorld) : a.ms + 1 ≤ bkRow a.row := by
  have h0 := bk_list bk_Ring a.Rings
  have h1 := bk_list bk_Daemon a.Daemons
  have h2 := bk_list bk_Letter a.Letters
  have h3 := bk_list bk_Event a.Numbered
  simp only [XWorld.ms, XWorld.row, bkRow, bkT]
  omega
def XGroup.tys : List CT := [.str, .sl [.str]]
theorem XGroup.vw_eq (a : XGroup) : a.row.map vwT = a.vw := rfl
theorem of_Group (row : Row) (h : tyR XGroup.tys row) : ∃ a : XGroup, row = a.row := by
  simp only [XGroup.tys, tyR, tyT] at h
  obtain ⟨t0, r0, e0, q0, h⟩ := h
  obtain ⟨t1, r1, e1, q1, h⟩ := h
  obtain ⟨x0, rfl⟩ := q0
  obtain ⟨s1, rfl, q1⟩ := q1
  obtain ⟨x1, rfl⟩ := of_str s1 q1
  subst h; subst e1; subst e0
  exact ⟨⟨x0, x1⟩, rfl⟩
theorem bk_Group (a : XGroup) : a.ms + 1 ≤ bkRow a.row := by
  have h0 := bk_strs a.Members
  simp only [XGroup.ms, XGroup.row, bkRow, bkT]
  omega
def XTable.tys : List CT := [.sl XGroup.tys]
theorem XTable.vw_eq (a : XTable) : a.row.map vwT = a.vw := rfl
theorem of_Table (row : Row) (h : tyR XTable.tys row) : ∃ a : XTable, row = a.row := by
  simp only [XTable.tys, tyR, tyT] at h
  obtain ⟨t0, r0, e0, q0, h⟩ := h
  obtain ⟨s0, rfl, q0⟩ := q0
  obtain ⟨x0, rfl⟩ := of_list of_Group s0 q0
  subst h; subst e0
  exact ⟨⟨x0⟩, rfl⟩
theorem bk_Table (a : XTable) : a.ms + 1 ≤ bkRow a.row := by
  have h0 := bk_list bk_Group a.Groups
  simp only [XTable.ms, XTable.row, bkRow, bkT]
  omega
def XBox.tys : List CT := [.str, .sl [.str], .bool]
theorem XBox.vw_eq (a : XBox) : a.row.map vwT = a.vw := rfl
theorem of_Box (row : Row) (h : tyR XBox.tys row) : ∃ a : XBox, row = a.row := by
  simp only [XBox.tys, tyR, tyT] at h
  obtain ⟨t0, r0, e0, q0, h⟩ := h
  obtain ⟨t1, r1, e1, q1, h⟩ := h
  obtain ⟨t2, r2, e2, q2, h⟩ := h
  obtain ⟨x0, rfl⟩ := q0
  obtain ⟨s1, rfl, q1⟩ := q1
  obtain ⟨x1, rfl⟩ := of_str s1 q1
  obtain ⟨x2, rfl⟩ := q2
  subst h; subst e2; subst e1; subst e0
  exact ⟨⟨x0, x1, x2⟩, rfl⟩
theorem bk_Box (a : XBox) : a.ms + 1 ≤ bkRow a.row := by
  have h0 := bk_strs a.Texts
  simp only [XBox.ms, XBox.row, bkRow, bkT]
  omega
def XSession.tys : List CT := [.int, .str, .str, .bool, .bool, .sl [.str]]
theorem XSession.vw_eq (a : XSession) : a.row.map vwT = a.vw := rfl
theorem of_Session (row : Row) (h : tyR XSession.tys row) : ∃ a : XSession, row = a.row := by
  simp only [XSession.tys, tyR, tyT] at h
  obtain ⟨t0, r0, e0, q0, h⟩ := h
  obtain ⟨t1, r1, e1, q1, h⟩ := h
  obtain ⟨t2, r2, e2, q2, h⟩ := h
  obtain ⟨t3, r3, e3, q3, h⟩ := h
  obtain ⟨t4, r4, e4, q4, h⟩ := h
  obtain ⟨t5, r5, e5, q5, h⟩ := h
  obtain ⟨x0, rfl⟩ := q0
  obtain ⟨x1, rfl⟩ := q1
  obtain ⟨x2, rfl⟩ := q2
  obtain ⟨x3, rfl⟩ := q3
  obtain ⟨x4, rfl⟩ := q4
  obtain ⟨s5, rfl, q5⟩ := q5
  obtain ⟨x5, rfl⟩ := of_str s5 q5
  subst h; subst e5; subst e4; subst e3; subst e2; subst e1; subst e0
  exact ⟨⟨x0, x1, ⟨x2, x3⟩, x4, x5⟩, rfl⟩
theorem bk_Session (a : XSession) : a.ms + 1 ≤ bkRow a.row := by
  have h0 := bk_strs a.In
  simp only [XSession.ms, XSession.row, bkRow, bkT, XReader.ms]
  omega
def XCaller.tys : List CT := [.int, .str, .str, .bool, .bool, .sl [.str], .str, .sl [.str], .bool, .str, .sl [.str]]
theorem XCaller.vw_eq (a : XCaller) : a.row.map vwT = a.vw := rfl
theorem of_Caller (row : Row) (h : tyR XCaller.tys row) : ∃ a : XCaller, row = a.row := by
  simp only [XCaller.tys, tyR, tyT] at h
  obtain ⟨t0, r0, e0, q0, h⟩ := h
  obtain ⟨t1, r1, e1, q1, h⟩ := h
  obtain ⟨t2, r2, e2, q2, h⟩ := h
  obtain ⟨t3, r3, e3, q3, h⟩ := h
  obtain ⟨t4, r4, e4, q4, h⟩ := h
  obtain ⟨t5, r5, e5, q5, h⟩ := h
  obtain ⟨t6, r6, e6, q6, h⟩ := h
  obtain ⟨t7, r7, e7, q7, h⟩ := h
  obtain ⟨t8, r8, e8, q8, h⟩ := h
  obtain ⟨t9, r9, e9, q9, h⟩ := h
  obtain ⟨t10, r10, e10, q10, h⟩ := h
  obtain ⟨x0, rfl⟩ := q0
  obtain ⟨x1, rfl⟩ := q1
  obtain ⟨x2, rfl⟩ := q2
  obtain ⟨x3, rfl⟩ := q3
  obtain ⟨x4, rfl⟩ := q4
  obtain ⟨s5, rfl, q5⟩ := q5
  obtain ⟨x5, rfl⟩ := of_str s5 q5
  obtain ⟨x6, rfl⟩ := q6
  obtain ⟨s7, rfl, q7⟩ := q7
  obtain ⟨x7, rfl⟩ := of_str s7 q7
  obtain ⟨x8, rfl⟩ := q8
  obtain ⟨x9, rfl⟩ := q9
  obtain ⟨s10, rfl, q10⟩ := q10
  obtain ⟨x10, rfl⟩ := of_str s10 q10
  subst h; subst e10; subst e9; subst e8; subst e7; subst e6; subst e5; subst e4; subst e3; subst e2; subst e1; subst e0
  exact ⟨⟨⟨x0, x1, ⟨x2, x3⟩, x4, x5⟩, ⟨x6, x7, x8⟩, x9, x10⟩, rfl⟩
theorem bk_Caller (a : XCaller) : a.ms + 1 ≤ bkRow a.row := by
  have h0 := bk_strs a.Session.In
  have h1 := bk_strs a.Box.Texts
  have h2 := bk_strs a.Got
  simp only [XCaller.ms, XCaller.row, bkRow, bkT, XBox.ms, XReader.ms, XSession.ms]
  omega
def XHall.tys : List CT := [.sl XRing.tys, .sl XDaemon.tys, .sl XLetter.tys, .sl XEvent.tys, .sl XCaller.tys, .sl XTable.tys, .sl [.int]]
theorem XHall.vw_eq (a : XHall) : a.row.map vwT = a.vw := rfl
theorem of_Hall (row : Row) (h : tyR XHall.tys row) : ∃ a : XHall, row = a.row := by
  simp only [XHall.tys, tyR, tyT] at h
  obtain ⟨t0, r0, e0, q0, h⟩ := h
  obtain ⟨t1, r1, e1, q1, h⟩ := h
  obtain ⟨t2, r2, e2, q2, h⟩ := h
  obtain ⟨t3, r3, e3, q3, h⟩ := h
  obtain ⟨t4, r4, e4, q4, h⟩ := h
  obtain ⟨t5, r5, e5, q5, h⟩ := h
  obtain ⟨t6, r6, e6, q6, h⟩ := h
  obtain ⟨s0, rfl, q0⟩ := q0
  obtain ⟨x0, rfl⟩ := of_list of_Ring s0 q0
  obtain ⟨s1, rfl, q1⟩ := q1
  obtain ⟨x1, rfl⟩ := of_list of_Daemon s1 q1
  obtain ⟨s2, rfl, q2⟩ := q2
  obtain ⟨x2, rfl⟩ := of_list of_Letter s2 q2
  obtain ⟨s3, rfl, q3⟩ := q3
  obtain ⟨x3, rfl⟩ := of_list of_Event s3 q3
  obtain ⟨s4, rfl, q4⟩ := q4
  obtain ⟨x4, rfl⟩ := of_list of_Caller s4 q4
  obtain ⟨s5, rfl, q5⟩ := q5
  obtain ⟨x5, rfl⟩ := of_list of_Table s5 q5
  obtain ⟨s6, rfl, q6⟩ := q6
  obtain ⟨x6, rfl⟩ := of_int s6 q6
  subst h; subst e6; subst e5; subst e4; subst e3; subst e2; subst e1; subst e0
  exact ⟨⟨⟨x0, x1, x2, x3⟩, x4, x5, x6⟩, rfl⟩
theorem bk_Hall (a : XHall) : a.ms + 1 ≤ bkRow a.row := by
  have h0 := bk_list bk_Ring a.World.Rings
  have h1 := bk_list bk_Daemon a.World.Daemons
  have h2 := bk_list bk_Letter a.World.Letters
  have h3 := bk_list bk_Event a.World.Numbered
  have h4 := bk_list bk_Caller a.Callers
  have h5 := bk_list bk_Table a.Tables
  have h6 := bk_ints a.Seen
  simp only [XHall.ms, XHall.row, bkRow, bkT, XWorld.ms]
  omega
end Go.Eng
