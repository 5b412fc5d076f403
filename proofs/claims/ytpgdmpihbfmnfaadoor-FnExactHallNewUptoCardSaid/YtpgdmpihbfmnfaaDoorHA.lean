/- Harness: strings. -/
import Derived.Test.YtpgdmpihbfmnfaaDoorProg
import Derived.Test.YtpgdmpihbfmnfaaDoorE3
set_option linter.unusedSimpArgs false
set_option linter.unusedVariables false
namespace Go.Eng
open Go.Proofs
noncomputable abbrev PP := Tryd.prog
def strR (s : ByteArray) : Row := [.lit (.string s)]
noncomputable def c_laws_markText : ACode := (.seq (.reg false [⟨none, .tk 2 (.k (.s emp)), []⟩] [0]) (.seq (.seq (.reg false [⟨none, .p 4 (.mv (.t 0)), []⟩, ⟨none, .p 5 (.bin .leq (.t 4) (.k (.i .i64 0))), []⟩] [0, 5]) (.cond (.t 5) (.seq (.reg false [⟨none, .tk 2 (.k (.s (bs [109,48]))), []⟩] [2]) .ret) .skip)) (.seq (.reg false [⟨none, .asg 3 (.k (.s emp)), []⟩] [0, 3]) (.seq (.block 0 (.loop [0, 3] (.seq (.seq (.reg false [⟨none, .p 6 (.mv (.t 0)), []⟩, ⟨none, .p 7 (.bin .gtr (.t 6) (.k (.i .i64 0))), []⟩] [0, 3, 7]) (.cond (.t 7) .skip (.exit 0 [3]))) (.block 1 (.seq (.reg false [⟨none, .p 8 (.mv (.t 0)), []⟩, ⟨none, .p 9 (.bin .rem (.t 8) (.k (.i .i64 10))), []⟩, ⟨none, .p 10 (.bin .add (.k (.i .i64 48)) (.t 9)), []⟩, ⟨none, .p 11 (.conv .u8 (.t 10)), []⟩, ⟨none, .bsl 12 1 [(.t 11)], []⟩, ⟨none, .p 13 (.b2s (.t 12)), []⟩, ⟨none, .p 14 (.mv (.t 3)), []⟩, ⟨none, .p 15 (.bin .add (.t 13) (.t 14)), []⟩, ⟨none, .asg 3 (.t 15), []⟩] [0, 3]) (.reg false [⟨none, .p 16 (.mv (.t 0)), []⟩, ⟨none, .p 17 (.bin .quo (.t 16) (.k (.i .i64 10))), []⟩, ⟨none, .asg 0 (.t 17), []⟩] [0, 3])))))) (.seq (.reg false [⟨none, .p 18 (.mv (.t 3)), []⟩, ⟨none, .p 19 (.bin .add (.k (.s (bs [109]))) (.t 18)), []⟩, ⟨none, .tk 2 (.t 19), []⟩] [2]) .ret)))))
theorem code_laws_markText : ∃ c, Tryd.f50.body = some c ∧ cfit PP 20 c c_laws_markText = true := by
  refine ⟨_, (rfl : Tryd.f50.body = some _), ?_⟩
  kernel_rfl
def byteB (n : Nat) : ByteArray := ⟨#[UInt8.ofNat n]⟩
def digsB : Nat → ByteArray → ByteArray
  | 0, out => out
  | k + 1, out => digsB ((k + 1) / 10) (byteB (48 + (k + 1) % 10) ++ out)
termination_by k => k
decreasing_by omega
def markB (k : Nat) : ByteArray := if k = 0 then bs [109, 48] else bs [109] ++ digsB k emp
theorem byteB_size (n : Nat) : (byteB n).size = 1 := rfl
theorem digsB_pos {k : Nat} (h : 0 < k) (out : ByteArray) : digsB k out = digsB (k / 10) (byteB (48 + k % 10) ++ out) := by
  cases k with
  | zero => omega
  | succ k => rw [digsB]
theorem t_markText {G : Glob} (k : Nat) (hk : k < 2^62) : FnD PP G 50 [.val false [.ow (.lit (.int .i64 k))]] [] [] [.v false [.ow (.lit (.string (markB k)))]] [] [] := by
  obtain ⟨cc, hb, hcf⟩ := code_laws_markText
  refine fn_ok (fn := Tryd.f50) (specs := [.t 2]) (by kernel_rfl) hb (by show (20:Nat) ≤ 10000; omega) hcf (by kernel_rfl) (by show (1:Nat) ≤ 20; omega) (by simp) (by simp) rfl rfl (by simp) rfl ?_
  simp only [c_laws_markText]
  push_cast
  refine cnd_dec (fun h0 => ?_) (fun h0 => ?_)
  · push_cast
    have : k = 0 := by omega
    subst this
    rfl
  · push_cast
    refine cwp_loop (fun q : Nat × ByteArray => ⟨[(0, .val false [.ow (.lit (.int .i64 q.1))]), (3, .val false [.ow (.lit (.string q.2))])], []⟩)
      (fun q => q.1 + q.2.size ≤ k ∧ digsB q.1 q.2 = digsB k emp) (fun q => q.1) (k, emp) rfl rfl ⟨by simp, rfl⟩ ?_
    rintro ⟨j, out⟩ ⟨h1, h2⟩
    simp only at h1 h2
    push_cast
    refine cnd_dec (fun hp => ?_) (fun hp => ?_)
    · push_cast
      have hj : 0 < j := by omega
      have e1 : (j : Int).tmod 10 = ((j % 10 : Nat) : Int) := rfl
      have e2 : (j : Int).tdiv 10 = ((j / 10 : Nat) : Int) := rfl
      have e3 : IntKind.i64.wrap (48 + ((j % 10 : Nat) : Int)) = ((48 + j % 10 : Nat) : Int) := by rw [wrap64 (by omega) (by omega)]; omega
      have e4 : IntKind.u8.wrap ((48 + j % 10 : Nat) : Int) = ((48 + j % 10 : Nat) : Int) := by rw [IntKind.wrap_u8]; omega
      rw [e1, e2, e3, e4]
      have e5 : (ByteArray.mk #[UInt8.ofNat ((48 + j % 10 : Nat) : Int).toNat]) = byteB (48 + j % 10) := by
        rw [Int.toNat_natCast]; rfl
      rw [e5]
      refine ⟨by rw [byteB_size]; omega, (j / 10, byteB (48 + j % 10) ++ out), ?_, ⟨?_, ?_⟩, ?_⟩
      · rw [wrap64 (by omega) (by omega)]
      · show j / 10 + (byteB (48 + j % 10) ++ out).size ≤ k
        rw [ByteArray.size_append, byteB_size]; omega
      · show digsB (j / 10) (byteB (48 + j % 10) ++ out) = digsB k emp
        rw [← digsB_pos hj, h2]
      · show j / 10 < j
        omega
    · push_cast
      have hj : j = 0 := by omega
      subst hj
      have h3 : out = digsB k emp := by rw [← h2, digsB]
      refine ⟨?_, ?_⟩
      · have : (bs [109]).size = 1 := rfl
        rw [this]; omega
      · have : k ≠ 0 := by omega
        simp [markB, this, h3]
end Go.Eng

set_option maxRecDepth 100000
namespace Go.Eng
open Go.Proofs

def intR (n : Int) : Row := [.lit (.int .i64 n)]
theorem flat_int (xs : List Int) : ((xs.map intR).all fun r => r.all T.flat) = true := flat_all _ (fun _ => rfl) xs
theorem flat_str (xs : List ByteArray) : ((xs.map strR).all fun r => r.all T.flat) = true := flat_all _ (fun _ => rfl) xs
attribute [push_cast] flat_int flat_str
def msL {α : Type} (f : α → Nat) (xs : List α) : Nat := xs.length + (xs.map f).sum
def cntL {α : Type} (f : α → Nat) (xs : List α) : Nat := (xs.map f).sum
def mkL {α : Type} (m : Nat → α → α) (c : α → Nat) : Nat → List α → List α
  | _, [] => []
  | k, a :: l => m k a :: mkL m c (k + c a) l
theorem sum_take {α : Type} (f : α → Nat) (xs : List α) (i : Nat) (h : i < xs.length) : ((xs.take (i + 1)).map f).sum = ((xs.take i).map f).sum + f xs[i] := by
  rw [List.take_succ_eq_append_getElem h, List.map_append, List.sum_append]; simp
theorem copy_step {α : Type} (z : α) {xs : List α} {i : Nat} (hi : i < xs.length) : (xs.take i ++ List.replicate (xs.length - i) z).set i xs[i] = xs.take (i + 1) ++ List.replicate (xs.length - (i + 1)) z := by
  have hl : (xs.take i).length = i := by simp; omega
  rw [List.set_append_right _ _ (by omega), hl, Nat.sub_self, show xs.length - i = (xs.length - (i + 1)) + 1 by omega, List.replicate_succ, List.set_cons_zero, List.take_succ_eq_append_getElem hi, List.append_assoc]
  rfl
/-- A whole row is written. -/
theorem modf {α : Type} (f : α → Row) (l : List α) (i : Nat) (x : α) {g : Row → Row} (hg : ∀ a, g (f a) = f x) : (l.map f).modify i g = (l.set i x).map f := by
  apply List.ext_getElem?
  intro j
  rw [List.getElem?_modify, List.getElem?_map, List.getElem?_map, List.getElem?_set]
  by_cases h : i = j
  · subst h
    by_cases h2 : i < l.length
    · simp [h2, hg]
    · simp [h2]
  · simp only [if_neg h]
    cases l[j]? <;> rfl
theorem sum_le {α : Type} (f : α → Nat) (xs : List α) (i : Nat) : ((xs.take i).map f).sum ≤ (xs.map f).sum := by
  have h : (xs.map f).sum = ((xs.take i).map f).sum + ((xs.drop i).map f).sum := by
    rw [← List.sum_append, ← List.map_append, List.take_append_drop]
  omega
theorem cnt_len {α : Type} (xs : List α) : cntL (fun _ => 1) xs = xs.length := by
  induction xs with
  | nil => rfl
  | cons a l ih => simp only [cntL, List.map_cons, List.sum_cons, List.length_cons] at ih ⊢; omega
theorem cnt1_le (xs : List Int) : cntL (fun _ => 1) xs ≤ 64 * xs.length := by
  have : cntL (fun _ : Int => 1) xs = xs.length := by
    induction xs with
    | nil => rfl
    | cons a l ih => simp only [cntL, List.map_cons, List.sum_cons, List.length_cons] at ih ⊢; omega
  omega
theorem cnts_le (xs : List ByteArray) : cntL (fun _ => 1) xs ≤ 64 * msL ByteArray.size xs := by
  have : cntL (fun _ : ByteArray => 1) xs = xs.length := by
    induction xs with
    | nil => rfl
    | cons a l ih => simp only [cntL, List.map_cons, List.sum_cons, List.length_cons] at ih ⊢; omega
  unfold msL; omega
theorem cntL_le {α : Type} (c m : α → Nat) (h : ∀ a, c a ≤ 64 * (m a + 1)) (xs : List α) : cntL c xs ≤ 64 * msL m xs := by
  induction xs with
  | nil => simp [cntL]
  | cons a l ih =>
    have := h a
    simp only [cntL, msL, List.map_cons, List.sum_cons, List.length_cons] at ih ⊢
    omega
theorem mkL_len {α : Type} (m : Nat → α → α) (c : α → Nat) (xs : List α) : ∀ k, (mkL m c k xs).length = xs.length := by
  induction xs with
  | nil => intro k; rfl
  | cons a l ih => intro k; simp only [mkL, List.length_cons, ih]
theorem mkL_app {α : Type} (m : Nat → α → α) (c : α → Nat) (xs ys : List α) : ∀ k, mkL m c k (xs ++ ys) = mkL m c k xs ++ mkL m c (k + cntL c xs) ys := by
  induction xs with
  | nil => intro k; simp [mkL, cntL]
  | cons a l ih => intro k; simp [mkL, cntL, ih, Nat.add_assoc]
theorem mark_step {α : Type} (f : α → Row) (m : Nat → α → α) (c : α → Nat) (xs : List α) (k i : Nat) (hi : i < xs.length) :
    ((mkL m c k (xs.take i) ++ xs.drop i).map f).set i (f (m (k + cntL c (xs.take i)) xs[i])) = (mkL m c k (xs.take (i + 1)) ++ xs.drop (i + 1)).map f := by
  have hl : (mkL m c k (xs.take i)).length = i := by rw [mkL_len]; simp; omega
  rw [← List.map_set, List.set_append_right _ _ (by omega), hl, Nat.sub_self, List.drop_eq_getElem_cons hi, List.set_cons_zero, List.take_succ_eq_append_getElem hi, mkL_app]
  simp [mkL]
theorem mark_at {α : Type} (f : α → Row) (m : Nat → α → α) (c : α → Nat) (xs : List α) (k i : Nat) (hi : i < xs.length) :
    ((mkL m c k (xs.take i) ++ xs.drop i).map f).set i (f xs[i]) = (mkL m c k (xs.take i) ++ xs.drop i).map f := by
  have hl : (mkL m c k (xs.take i)).length = i := by rw [mkL_len]; simp; omega
  rw [← List.map_set, List.set_append_right _ _ (by omega), hl, Nat.sub_self, List.drop_eq_getElem_cons hi, List.set_cons_zero]
theorem cnt_step {α : Type} (c : α → Nat) (xs : List α) (k i : Nat) (hi : i < xs.length) : k + cntL c (xs.take (i + 1)) = (k + cntL c (xs.take i)) + c xs[i] := by
  have := sum_take c xs i hi
  unfold cntL; omega
theorem cnt_le {α : Type} (c : α → Nat) (xs : List α) (k i : Nat) (hi : i < xs.length) : (k + cntL c (xs.take i)) + c xs[i] ≤ k + cntL c xs := by
  have h1 := sum_take c xs i hi
  have h2 := sum_le c xs (i + 1)
  unfold cntL; omega
theorem mkL_get {α : Type} (m : Nat → α → α) (c : α → Nat) (xs : List α) (k i : Nat) (hi : i < xs.length) (h2 : i < (mkL m c k xs).length) : (mkL m c k xs)[i] = m (k + cntL c (xs.take i)) xs[i] := by
  have h := mkL_app m c (xs.take i) (xs.drop i) k
  rw [List.take_append_drop] at h
  have hl : (mkL m c k (xs.take i)).length = i := by rw [mkL_len]; simp; omega
  have : (mkL m c k xs)[i]? = some (m (k + cntL c (xs.take i)) xs[i]) := by
    rw [h, List.getElem?_append_right (by omega), hl, Nat.sub_self, List.drop_eq_getElem_cons hi]
    rfl
  rw [List.getElem?_eq_getElem h2] at this
  exact Option.some.inj this
theorem getD_set_eq {α : Type} {l : List α} {i : Nat} (h : i < l.length) {r d : α} : (l.set i r).getD i d = r := by
  rw [List.getD_eq_getElem?_getD, List.getElem?_set_self h]; rfl
theorem getq_set_eq {α : Type} {l : List α} {i : Nat} (h : i < l.length) {r : α} : (l.set i r)[i]? = some r := List.getElem?_set_self h
theorem set_modify {α : Type} {l : List α} {i : Nat} {r : α} {g : α → α} : (l.set i r).modify i g = l.set i (g r) := by
  apply List.ext_getElem?
  intro j
  rw [List.getElem?_modify, List.getElem?_set, List.getElem?_set]
  by_cases h : i = j
  · subst h
    by_cases h2 : i < l.length <;> simp [h2]
  · simp [if_neg h]
theorem wrapN {n : Nat} (h : n < 4611686018427387904) : IntKind.i64.wrap ((n : Int) + 1) = ((n + 1 : Nat) : Int) := by
  rw [wrap64 (by omega) (by omega)]; omega
theorem tmod3 (n : Nat) : ((n : Int).tmod 3 = 0) = (n % 3 = 0) := by
  have : (n : Int).tmod 3 = ((n % 3 : Nat) : Int) := rfl
  rw [this]; simp; omega
theorem sum_mem {α : Type} (f : α → Nat) (xs : List α) (i : Nat) (h : i < xs.length) : f xs[i] ≤ (xs.map f).sum := by
  have := sum_take f xs i h
  have := sum_le f xs (i + 1)
  omega
structure XReader where
  Rest : ByteArray
  Bad : Bool
  deriving DecidableEq
def XReader.row (a : XReader) : Row := [.lit (.string a.Rest), .lit (.bool a.Bad)]
def XReader.vw (a : XReader) : List Cl := [.ow (.lit (.string a.Rest)), .ow (.lit (.bool a.Bad))]
def XReader.own (a : XReader) : List Cl := [.ow (.lit (.string a.Rest)), .ow (.lit (.bool a.Bad))]
def XReader.ms (a : XReader) : Nat := a.Rest.size
def XReader.zero : XReader := ⟨emp, false⟩
def XReader.ct (a : XReader) : Nat := 1 + 1
def XReader.mrk (k : Nat) (a : XReader) : XReader := ⟨(markB (k)), (decide (((k + 1 : Nat) : Int).tmod 3 = 0))⟩
theorem ct_Reader (a : XReader) : a.ct ≤ 64 * (a.ms + 1) := by
  simp only [XReader.ct, XReader.ms]
  omega
theorem flat_Reader (xs : List XReader) : ((xs.map XReader.row).all fun r => r.all T.flat) = true := flat_all _ (fun _ => rfl) xs
attribute [push_cast] flat_Reader
structure XItem where
  Seq : Int
  From : Int
  Level : Int
  Text : ByteArray
  deriving DecidableEq
def XItem.row (a : XItem) : Row := [.lit (.int .i64 a.Seq), .lit (.int .i64 a.From), .lit (.int .i64 a.Level), .lit (.string a.Text)]
def XItem.vw (a : XItem) : List Cl := [.ow (.lit (.int .i64 a.Seq)), .ow (.lit (.int .i64 a.From)), .ow (.lit (.int .i64 a.Level)), .ow (.lit (.string a.Text))]
def XItem.own (a : XItem) : List Cl := [.ow (.lit (.int .i64 a.Seq)), .ow (.lit (.int .i64 a.From)), .ow (.lit (.int .i64 a.Level)), .ow (.lit (.string a.Text))]
def XItem.ms (a : XItem) : Nat := a.Text.size
def XItem.zero : XItem := ⟨0, 0, 0, emp⟩
def XItem.ct (a : XItem) : Nat := 1 + 1 + 1 + 1
def XItem.mrk (k : Nat) (a : XItem) : XItem := ⟨((k : Nat) : Int), ((k + 1 : Nat) : Int), ((k + 1 + 1 : Nat) : Int), (markB (k + 1 + 1 + 1))⟩
theorem ct_Item (a : XItem) : a.ct ≤ 64 * (a.ms + 1) := by
  simp only [XItem.ct, XItem.ms]
  omega
theorem flat_Item (xs : List XItem) : ((xs.map XItem.row).all fun r => r.all T.flat) = true := flat_all _ (fun _ => rfl) xs
attribute [push_cast] flat_Item
structure XToken where
  Conf : Int
  Round : Int
  Seq : Int
  Aru : Int
  By : Int
  Wants : List Int
  deriving DecidableEq
def XToken.row (a : XToken) : Row := [.lit (.int .i64 a.Conf), .lit (.int .i64 a.Round), .lit (.int .i64 a.Seq), .lit (.int .i64 a.Aru), .lit (.int .i64 a.By), .sl .ow 1 (a.Wants.map intR)]
def XToken.vw (a : XToken) : List Cl := [.ow (.lit (.int .i64 a.Conf)), .ow (.lit (.int .i64 a.Round)), .ow (.lit (.int .i64 a.Seq)), .ow (.lit (.int .i64 a.Aru)), .ow (.lit (.int .i64 a.By)), .vw none [] (.sl .ow 1 (a.Wants.map intR))]
def XToken.own (a : XToken) : List Cl := [.ow (.lit (.int .i64 a.Conf)), .ow (.lit (.int .i64 a.Round)), .ow (.lit (.int .i64 a.Seq)), .ow (.lit (.int .i64 a.Aru)), .ow (.lit (.int .i64 a.By)), .ow (.sl .ow 1 (a.Wants.map intR))]
def XToken.ms (a : XToken) : Nat := a.Wants.length
def XToken.zero : XToken := ⟨0, 0, 0, 0, 0, []⟩
def XToken.ct (a : XToken) : Nat := 1 + 1 + 1 + 1 + 1 + cntL (fun _ => 1) a.Wants
def XToken.mrk (k : Nat) (a : XToken) : XToken := ⟨((k : Nat) : Int), ((k + 1 : Nat) : Int), ((k + 1 + 1 : Nat) : Int), ((k + 1 + 1 + 1 : Nat) : Int), ((k + 1 + 1 + 1 + 1 : Nat) : Int), (mkL (fun n _ => (n : Int)) (fun _ => 1) (k + 1 + 1 + 1 + 1 + 1) a.Wants)⟩
theorem ct_Token (a : XToken) : a.ct ≤ 64 * (a.ms + 1) := by
  have h0 := cnt1_le a.Wants
  simp only [XToken.ct, XToken.ms]
  omega
def XToken.vct (a : XToken) : Nat := cntL (fun _ => 1) a.Wants
def XToken.vmk (k : Nat) (a : XToken) : XToken := ⟨a.Conf, a.Round, a.Seq, a.Aru, a.By, (mkL (fun n _ => (n : Int)) (fun _ => 1) (k) a.Wants)⟩
theorem vct_Token (a : XToken) : a.vct ≤ 64 * a.ms := by
  have h0 := cnt1_le a.Wants
  simp only [XToken.vct, XToken.ms]
  omega
structure XRing where
  Id : Int
  Members : List Int
  deriving DecidableEq
def XRing.row (a : XRing) : Row := [.lit (.int .i64 a.Id), .sl .ow 1 (a.Members.map intR)]
def XRing.vw (a : XRing) : List Cl := [.ow (.lit (.int .i64 a.Id)), .vw none [] (.sl .ow 1 (a.Members.map intR))]
def XRing.own (a : XRing) : List Cl := [.ow (.lit (.int .i64 a.Id)), .ow (.sl .ow 1 (a.Members.map intR))]
def XRing.ms (a : XRing) : Nat := a.Members.length
def XRing.zero : XRing := ⟨0, []⟩
def XRing.ct (a : XRing) : Nat := 1 + cntL (fun _ => 1) a.Members
def XRing.mrk (k : Nat) (a : XRing) : XRing := ⟨((k : Nat) : Int), (mkL (fun n _ => (n : Int)) (fun _ => 1) (k + 1) a.Members)⟩
theorem ct_Ring (a : XRing) : a.ct ≤ 64 * (a.ms + 1) := by
  have h0 := cnt1_le a.Members
  simp only [XRing.ct, XRing.ms]
  omega
def XRing.vct (a : XRing) : Nat := cntL (fun _ => 1) a.Members
def XRing.vmk (k : Nat) (a : XRing) : XRing := ⟨a.Id, (mkL (fun n _ => (n : Int)) (fun _ => 1) (k) a.Members)⟩
theorem vct_Ring (a : XRing) : a.vct ≤ 64 * a.ms := by
  have h0 := cnt1_le a.Members
  simp only [XRing.vct, XRing.ms]
  omega
structure XMate where
  Id : Int
  Ring : XRing
  Items : List XItem
  Level : List Int
  Texts : List ByteArray
  Round : Int
  Seen : Int
  Line : Int
  Heard : Int
  Last : XToken
  deriving DecidableEq
def XMate.row (a : XMate) : Row := [.lit (.int .i64 a.Id), .lit (.int .i64 a.Ring.Id), .sl .ow 1 (a.Ring.Members.map intR), .sl .ow 4 (a.Items.map XItem.row), .sl .ow 1 (a.Level.map intR), .sl .ow 1 (a.Texts.map strR), .lit (.int .i64 a.Round), .lit (.int .i64 a.Seen), .lit (.int .i64 a.Line), .lit (.int .i64 a.Heard), .lit (.int .i64 a.Last.Conf), .lit (.int .i64 a.Last.Round), .lit (.int .i64 a.Last.Seq), .lit (.int .i64 a.Last.Aru), .lit (.int .i64 a.Last.By), .sl .ow 1 (a.Last.Wants.map intR)]
def XMate.vw (a : XMate) : List Cl := [.ow (.lit (.int .i64 a.Id)), .ow (.lit (.int .i64 a.Ring.Id)), .vw none [] (.sl .ow 1 (a.Ring.Members.map intR)), .vw none [] (.sl .ow 4 (a.Items.map XItem.row)), .vw none [] (.sl .ow 1 (a.Level.map intR)), .vw none [] (.sl .ow 1 (a.Texts.map strR)), .ow (.lit (.int .i64 a.Round)), .ow (.lit (.int .i64 a.Seen)), .ow (.lit (.int .i64 a.Line)), .ow (.lit (.int .i64 a.Heard)), .ow (.lit (.int .i64 a.Last.Conf)), .ow (.lit (.int .i64 a.Last.Round)), .ow (.lit (.int .i64 a.Last.Seq)), .ow (.lit (.int .i64 a.Last.Aru)), .ow (.lit (.int .i64 a.Last.By)), .vw none [] (.sl .ow 1 (a.Last.Wants.map intR))]
def XMate.own (a : XMate) : List Cl := [.ow (.lit (.int .i64 a.Id)), .ow (.lit (.int .i64 a.Ring.Id)), .ow (.sl .ow 1 (a.Ring.Members.map intR)), .ow (.sl .ow 4 (a.Items.map XItem.row)), .ow (.sl .ow 1 (a.Level.map intR)), .ow (.sl .ow 1 (a.Texts.map strR)), .ow (.lit (.int .i64 a.Round)), .ow (.lit (.int .i64 a.Seen)), .ow (.lit (.int .i64 a.Line)), .ow (.lit (.int .i64 a.Heard)), .ow (.lit (.int .i64 a.Last.Conf)), .ow (.lit (.int .i64 a.Last.Round)), .ow (.lit (.int .i64 a.Last.Seq)), .ow (.lit (.int .i64 a.Last.Aru)), .ow (.lit (.int .i64 a.Last.By)), .ow (.sl .ow 1 (a.Last.Wants.map intR))]
def XMate.ms (a : XMate) : Nat := a.Ring.ms + msL XItem.ms a.Items + a.Level.length + msL ByteArray.size a.Texts + a.Last.ms
def XMate.zero : XMate := ⟨0, XRing.zero, [], [], [], 0, 0, 0, 0, XToken.zero⟩
def XMate.ct (a : XMate) : Nat := 1 + 1 + cntL (fun _ => 1) a.Ring.Members + cntL XItem.ct a.Items + cntL (fun _ => 1) a.Level + cntL (fun _ => 1) a.Texts + 1 + 1 + 1 + 1 + 1 + 1 + 1 + 1 + 1 + cntL (fun _ => 1) a.Last.Wants
def XMate.mrk (k : Nat) (a : XMate) : XMate := ⟨((k : Nat) : Int), ⟨((k + 1 : Nat) : Int), (mkL (fun n _ => (n : Int)) (fun _ => 1) (k + 1 + 1) a.Ring.Members)⟩, (mkL XItem.mrk XItem.ct (k + 1 + 1 + cntL (fun _ => 1) a.Ring.Members) a.Items), (mkL (fun n _ => (n : Int)) (fun _ => 1) (k + 1 + 1 + cntL (fun _ => 1) a.Ring.Members + cntL XItem.ct a.Items) a.Level), (mkL (fun n _ => markB n) (fun _ => 1) (k + 1 + 1 + cntL (fun _ => 1) a.Ring.Members + cntL XItem.ct a.Items + cntL (fun _ => 1) a.Level) a.Texts), ((k + 1 + 1 + cntL (fun _ => 1) a.Ring.Members + cntL XItem.ct a.Items + cntL (fun _ => 1) a.Level + cntL (fun _ => 1) a.Texts : Nat) : Int), ((k + 1 + 1 + cntL (fun _ => 1) a.Ring.Members + cntL XItem.ct a.Items + cntL (fun _ => 1) a.Level + cntL (fun _ => 1) a.Texts + 1 : Nat) : Int), ((k + 1 + 1 + cntL (fun _ => 1) a.Ring.Members + cntL XItem.ct a.Items + cntL (fun _ => 1) a.Level + cntL (fun _ => 1) a.Texts + 1 + 1 : Nat) : Int), ((k + 1 + 1 + cntL (fun _ => 1) a.Ring.Members + cntL XItem.ct a.Items + cntL (fun _ => 1) a.Level + cntL (fun _ => 1) a.Texts + 1 + 1 + 1 : Nat) : Int), ⟨((k + 1 + 1 + cntL (fun _ => 1) a.Ring.Members + cntL XItem.ct a.Items + cntL (fun _ => 1) a.Level + cntL (fun _ => 1) a.Texts + 1 + 1 + 1 + 1 : Nat) : Int), ((k + 1 + 1 + cntL (fun _ => 1) a.Ring.Members + cntL XItem.ct a.Items + cntL (fun _ => 1) a.Level + cntL (fun _ => 1) a.Texts + 1 + 1 + 1 + 1 + 1 : Nat) : Int), ((k + 1 + 1 + cntL (fun _ => 1) a.Ring.Members + cntL XItem.ct a.Items + cntL (fun _ => 1) a.Level + cntL (fun _ => 1) a.Texts + 1 + 1 + 1 + 1 + 1 + 1 : Nat) : Int), ((k + 1 + 1 + cntL (fun _ => 1) a.Ring.Members + cntL XItem.ct a.Items + cntL (fun _ => 1) a.Level + cntL (fun _ => 1) a.Texts + 1 + 1 + 1 + 1 + 1 + 1 + 1 : Nat) : Int), ((k + 1 + 1 + cntL (fun _ => 1) a.Ring.Members + cntL XItem.ct a.Items + cntL (fun _ => 1) a.Level + cntL (fun _ => 1) a.Texts + 1 + 1 + 1 + 1 + 1 + 1 + 1 + 1 : Nat) : Int), (mkL (fun n _ => (n : Int)) (fun _ => 1) (k + 1 + 1 + cntL (fun _ => 1) a.Ring.Members + cntL XItem.ct a.Items + cntL (fun _ => 1) a.Level + cntL (fun _ => 1) a.Texts + 1 + 1 + 1 + 1 + 1 + 1 + 1 + 1 + 1) a.Last.Wants)⟩⟩
theorem ct_Mate (a : XMate) : a.ct ≤ 64 * (a.ms + 1) := by
  have h0 := cnt1_le a.Ring.Members
  have h1 := cntL_le XItem.ct XItem.ms ct_Item a.Items
  have h2 := cnt1_le a.Level
  have h3 := cnts_le a.Texts
  have h4 := cnt1_le a.Last.Wants
  simp only [XMate.ct, XMate.ms, XRing.ms, XToken.ms]
  omega
def XMate.vct (a : XMate) : Nat := cntL (fun _ => 1) a.Ring.Members + cntL XItem.ct a.Items + cntL (fun _ => 1) a.Level + cntL (fun _ => 1) a.Texts + cntL (fun _ => 1) a.Last.Wants
def XMate.vmk (k : Nat) (a : XMate) : XMate := ⟨a.Id, ⟨a.Ring.Id, (mkL (fun n _ => (n : Int)) (fun _ => 1) (k) a.Ring.Members)⟩, (mkL XItem.mrk XItem.ct (k + cntL (fun _ => 1) a.Ring.Members) a.Items), (mkL (fun n _ => (n : Int)) (fun _ => 1) (k + cntL (fun _ => 1) a.Ring.Members + cntL XItem.ct a.Items) a.Level), (mkL (fun n _ => markB n) (fun _ => 1) (k + cntL (fun _ => 1) a.Ring.Members + cntL XItem.ct a.Items + cntL (fun _ => 1) a.Level) a.Texts), a.Round, a.Seen, a.Line, a.Heard, ⟨a.Last.Conf, a.Last.Round, a.Last.Seq, a.Last.Aru, a.Last.By, (mkL (fun n _ => (n : Int)) (fun _ => 1) (k + cntL (fun _ => 1) a.Ring.Members + cntL XItem.ct a.Items + cntL (fun _ => 1) a.Level + cntL (fun _ => 1) a.Texts) a.Last.Wants)⟩⟩
theorem vct_Mate (a : XMate) : a.vct ≤ 64 * a.ms := by
  have h0 := cnt1_le a.Ring.Members
  have h1 := cntL_le XItem.ct XItem.ms ct_Item a.Items
  have h2 := cnt1_le a.Level
  have h3 := cnts_le a.Texts
  have h4 := cnt1_le a.Last.Wants
  simp only [XMate.vct, XMate.ms, XRing.ms, XToken.ms]
  omega
structure XBundle where
  From : Int
  New : Int
  Old : Int
  Items : List XItem
  deriving DecidableEq
def XBundle.row (a : XBundle) : Row := [.lit (.int .i64 a.From), .lit (.int .i64 a.New), .lit (.int .i64 a.Old), .sl .ow 4 (a.Items.map XItem.row)]
def XBundle.vw (a : XBundle) : List Cl := [.ow (.lit (.int .i64 a.From)), .ow (.lit (.int .i64 a.New)), .ow (.lit (.int .i64 a.Old)), .vw none [] (.sl .ow 4 (a.Items.map XItem.row))]
def XBundle.own (a : XBundle) : List Cl := [.ow (.lit (.int .i64 a.From)), .ow (.lit (.int .i64 a.New)), .ow (.lit (.int .i64 a.Old)), .ow (.sl .ow 4 (a.Items.map XItem.row))]
def XBundle.ms (a : XBundle) : Nat := msL XItem.ms a.Items
def XBundle.zero : XBundle := ⟨0, 0, 0, []⟩
def XBundle.ct (a : XBundle) : Nat := 1 + 1 + 1 + cntL XItem.ct a.Items
def XBundle.mrk (k : Nat) (a : XBundle) : XBundle := ⟨((k : Nat) : Int), ((k + 1 : Nat) : Int), ((k + 1 + 1 : Nat) : Int), (mkL XItem.mrk XItem.ct (k + 1 + 1 + 1) a.Items)⟩
theorem ct_Bundle (a : XBundle) : a.ct ≤ 64 * (a.ms + 1) := by
  have h0 := cntL_le XItem.ct XItem.ms ct_Item a.Items
  simp only [XBundle.ct, XBundle.ms]
  omega
def XBundle.vct (a : XBundle) : Nat := cntL XItem.ct a.Items
def XBundle.vmk (k : Nat) (a : XBundle) : XBundle := ⟨a.From, a.New, a.Old, (mkL XItem.mrk XItem.ct (k) a.Items)⟩
theorem vct_Bundle (a : XBundle) : a.vct ≤ 64 * a.ms := by
  have h0 := cntL_le XItem.ct XItem.ms ct_Item a.Items
  simp only [XBundle.vct, XBundle.ms]
  omega
structure XEvent where
  Kind : Int
  Ring : XRing
  Item : XItem
  With : List Int
  deriving DecidableEq
def XEvent.row (a : XEvent) : Row := [.lit (.int .i64 a.Kind), .lit (.int .i64 a.Ring.Id), .sl .ow 1 (a.Ring.Members.map intR), .lit (.int .i64 a.Item.Seq), .lit (.int .i64 a.Item.From), .lit (.int .i64 a.Item.Level), .lit (.string a.Item.Text), .sl .ow 1 (a.With.map intR)]
def XEvent.vw (a : XEvent) : List Cl := [.ow (.lit (.int .i64 a.Kind)), .ow (.lit (.int .i64 a.Ring.Id)), .vw none [] (.sl .ow 1 (a.Ring.Members.map intR)), .ow (.lit (.int .i64 a.Item.Seq)), .ow (.lit (.int .i64 a.Item.From)), .ow (.lit (.int .i64 a.Item.Level)), .ow (.lit (.string a.Item.Text)), .vw none [] (.sl .ow 1 (a.With.map intR))]
def XEvent.own (a : XEvent) : List Cl := [.ow (.lit (.int .i64 a.Kind)), .ow (.lit (.int .i64 a.Ring.Id)), .ow (.sl .ow 1 (a.Ring.Members.map intR)), .ow (.lit (.int .i64 a.Item.Seq)), .ow (.lit (.int .i64 a.Item.From)), .ow (.lit (.int .i64 a.Item.Level)), .ow (.lit (.string a.Item.Text)), .ow (.sl .ow 1 (a.With.map intR))]
def XEvent.ms (a : XEvent) : Nat := a.Ring.ms + a.Item.ms + a.With.length
def XEvent.zero : XEvent := ⟨0, XRing.zero, XItem.zero, []⟩
def XEvent.ct (a : XEvent) : Nat := 1 + 1 + cntL (fun _ => 1) a.Ring.Members + 1 + 1 + 1 + 1 + cntL (fun _ => 1) a.With
def XEvent.mrk (k : Nat) (a : XEvent) : XEvent := ⟨((k : Nat) : Int), ⟨((k + 1 : Nat) : Int), (mkL (fun n _ => (n : Int)) (fun _ => 1) (k + 1 + 1) a.Ring.Members)⟩, ⟨((k + 1 + 1 + cntL (fun _ => 1) a.Ring.Members : Nat) : Int), ((k + 1 + 1 + cntL (fun _ => 1) a.Ring.Members + 1 : Nat) : Int), ((k + 1 + 1 + cntL (fun _ => 1) a.Ring.Members + 1 + 1 : Nat) : Int), (markB (k + 1 + 1 + cntL (fun _ => 1) a.Ring.Members + 1 + 1 + 1))⟩, (mkL (fun n _ => (n : Int)) (fun _ => 1) (k + 1 + 1 + cntL (fun _ => 1) a.Ring.Members + 1 + 1 + 1 + 1) a.With)⟩
theorem ct_Event (a : XEvent) : a.ct ≤ 64 * (a.ms + 1) := by
  have h0 := cnt1_le a.Ring.Members
  have h1 := cnt1_le a.With
  simp only [XEvent.ct, XEvent.ms, XItem.ms, XRing.ms]
  omega
def XEvent.vct (a : XEvent) : Nat := cntL (fun _ => 1) a.Ring.Members + cntL (fun _ => 1) a.With
def XEvent.vmk (k : Nat) (a : XEvent) : XEvent := ⟨a.Kind, ⟨a.Ring.Id, (mkL (fun n _ => (n : Int)) (fun _ => 1) (k) a.Ring.Members)⟩, ⟨a.Item.Seq, a.Item.From, a.Item.Level, a.Item.Text⟩, (mkL (fun n _ => (n : Int)) (fun _ => 1) (k + cntL (fun _ => 1) a.Ring.Members) a.With)⟩
theorem vct_Event (a : XEvent) : a.vct ≤ 64 * a.ms := by
  have h0 := cnt1_le a.Ring.Members
  have h1 := cnt1_le a.With
  simp only [XEvent.vct, XEvent.ms, XItem.ms, XRing.ms]
  omega
structure XDaemon where
  Id : Int
  Dead : Bool
  Mate : XMate
  Most : Int
  Old : Int
  Joining : XRing
  Bundles : List XBundle
  Log : List XEvent
  deriving DecidableEq
def XDaemon.row (a : XDaemon) : Row := [.lit (.int .i64 a.Id), .lit (.bool a.Dead), .lit (.int .i64 a.Mate.Id), .lit (.int .i64 a.Mate.Ring.Id), .sl .ow 1 (a.Mate.Ring.Members.map intR), .sl .ow 4 (a.Mate.Items.map XItem.row), .sl .ow 1 (a.Mate.Level.map intR), .sl .ow 1 (a.Mate.Texts.map strR), .lit (.int .i64 a.Mate.Round), .lit (.int .i64 a.Mate.Seen), .lit (.int .i64 a.Mate.Line), .lit (.int .i64 a.Mate.Heard), .lit (.int .i64 a.Mate.Last.Conf), .lit (.int .i64 a.Mate.Last.Round), .lit (.int .i64 a.Mate.Last.Seq), .lit (.int .i64 a.Mate.Last.Aru), .lit (.int .i64 a.Mate.Last.By), .sl .ow 1 (a.Mate.Last.Wants.map intR), .lit (.int .i64 a.Most), .lit (.int .i64 a.Old), .lit (.int .i64 a.Joining.Id), .sl .ow 1 (a.Joining.Members.map intR), .sl .ow 4 (a.Bundles.map XBundle.row), .sl .ow 8 (a.Log.map XEvent.row)]
def XDaemon.vw (a : XDaemon) : List Cl := [.ow (.lit (.int .i64 a.Id)), .ow (.lit (.bool a.Dead)), .ow (.lit (.int .i64 a.Mate.Id)), .ow (.lit (.int .i64 a.Mate.Ring.Id)), .vw none [] (.sl .ow 1 (a.Mate.Ring.Members.map intR)), .vw none [] (.sl .ow 4 (a.Mate.Items.map XItem.row)), .vw none [] (.sl .ow 1 (a.Mate.Level.map intR)), .vw none [] (.sl .ow 1 (a.Mate.Texts.map strR)), .ow (.lit (.int .i64 a.Mate.Round)), .ow (.lit (.int .i64 a.Mate.Seen)), .ow (.lit (.int .i64 a.Mate.Line)), .ow (.lit (.int .i64 a.Mate.Heard)), .ow (.lit (.int .i64 a.Mate.Last.Conf)), .ow (.lit (.int .i64 a.Mate.Last.Round)), .ow (.lit (.int .i64 a.Mate.Last.Seq)), .ow (.lit (.int .i64 a.Mate.Last.Aru)), .ow (.lit (.int .i64 a.Mate.Last.By)), .vw none [] (.sl .ow 1 (a.Mate.Last.Wants.map intR)), .ow (.lit (.int .i64 a.Most)), .ow (.lit (.int .i64 a.Old)), .ow (.lit (.int .i64 a.Joining.Id)), .vw none [] (.sl .ow 1 (a.Joining.Members.map intR)), .vw none [] (.sl .ow 4 (a.Bundles.map XBundle.row)), .vw none [] (.sl .ow 8 (a.Log.map XEvent.row))]
def XDaemon.own (a : XDaemon) : List Cl := [.ow (.lit (.int .i64 a.Id)), .ow (.lit (.bool a.Dead)), .ow (.lit (.int .i64 a.Mate.Id)), .ow (.lit (.int .i64 a.Mate.Ring.Id)), .ow (.sl .ow 1 (a.Mate.Ring.Members.map intR)), .ow (.sl .ow 4 (a.Mate.Items.map XItem.row)), .ow (.sl .ow 1 (a.Mate.Level.map intR)), .ow (.sl .ow 1 (a.Mate.Texts.map strR)), .ow (.lit (.int .i64 a.Mate.Round)), .ow (.lit (.int .i64 a.Mate.Seen)), .ow (.lit (.int .i64 a.Mate.Line)), .ow (.lit (.int .i64 a.Mate.Heard)), .ow (.lit (.int .i64 a.Mate.Last.Conf)), .ow (.lit (.int .i64 a.Mate.Last.Round)), .ow (.lit (.int .i64 a.Mate.Last.Seq)), .ow (.lit (.int .i64 a.Mate.Last.Aru)), .ow (.lit (.int .i64 a.Mate.Last.By)), .ow (.sl .ow 1 (a.Mate.Last.Wants.map intR)), .ow (.lit (.int .i64 a.Most)), .ow (.lit (.int .i64 a.Old)), .ow (.lit (.int .i64 a.Joining.Id)), .ow (.sl .ow 1 (a.Joining.Members.map intR)), .ow (.sl .ow 4 (a.Bundles.map XBundle.row)), .ow (.sl .ow 8 (a.Log.map XEvent.row))]
def XDaemon.ms (a : XDaemon) : Nat := a.Mate.ms + a.Joining.ms + msL XBundle.ms a.Bundles + msL XEvent.ms a.Log
def XDaemon.zero : XDaemon := ⟨0, false, XMate.zero, 0, 0, XRing.zero, [], []⟩
def XDaemon.ct (a : XDaemon) : Nat := 1 + 1 + 1 + 1 + cntL (fun _ => 1) a.Mate.Ring.Members + cntL XItem.ct a.Mate.Items + cntL (fun _ => 1) a.Mate.Level + cntL (fun _ => 1) a.Mate.Texts + 1 + 1 + 1 + 1 + 1 + 1 + 1 + 1 + 1 + cntL (fun _ => 1) a.Mate.Last.Wants + 1 + 1 + 1 + cntL (fun _ => 1) a.Joining.Members + cntL XBundle.ct a.Bundles + cntL XEvent.ct a.Log
def XDaemon.mrk (k : Nat) (a : XDaemon) : XDaemon := ⟨((k : Nat) : Int), (decide (((k + 1 : Nat) : Int).tmod 3 = 0)), ⟨((k + 1 + 1 : Nat) : Int), ⟨((k + 1 + 1 + 1 : Nat) : Int), (mkL (fun n _ => (n : Int)) (fun _ => 1) (k + 1 + 1 + 1 + 1) a.Mate.Ring.Members)⟩, (mkL XItem.mrk XItem.ct (k + 1 + 1 + 1 + 1 + cntL (fun _ => 1) a.Mate.Ring.Members) a.Mate.Items), (mkL (fun n _ => (n : Int)) (fun _ => 1) (k + 1 + 1 + 1 + 1 + cntL (fun _ => 1) a.Mate.Ring.Members + cntL XItem.ct a.Mate.Items) a.Mate.Level), (mkL (fun n _ => markB n) (fun _ => 1) (k + 1 + 1 + 1 + 1 + cntL (fun _ => 1) a.Mate.Ring.Members + cntL XItem.ct a.Mate.Items + cntL (fun _ => 1) a.Mate.Level) a.Mate.Texts), ((k + 1 + 1 + 1 + 1 + cntL (fun _ => 1) a.Mate.Ring.Members + cntL XItem.ct a.Mate.Items + cntL (fun _ => 1) a.Mate.Level + cntL (fun _ => 1) a.Mate.Texts : Nat) : Int), ((k + 1 + 1 + 1 + 1 + cntL (fun _ => 1) a.Mate.Ring.Members + cntL XItem.ct a.Mate.Items + cntL (fun _ => 1) a.Mate.Level + cntL (fun _ => 1) a.Mate.Texts + 1 : Nat) : Int), ((k + 1 + 1 + 1 + 1 + cntL (fun _ => 1) a.Mate.Ring.Members + cntL XItem.ct a.Mate.Items + cntL (fun _ => 1) a.Mate.Level + cntL (fun _ => 1) a.Mate.Texts + 1 + 1 : Nat) : Int), ((k + 1 + 1 + 1 + 1 + cntL (fun _ => 1) a.Mate.Ring.Members + cntL XItem.ct a.Mate.Items + cntL (fun _ => 1) a.Mate.Level + cntL (fun _ => 1) a.Mate.Texts + 1 + 1 + 1 : Nat) : Int), ⟨((k + 1 + 1 + 1 + 1 + cntL (fun _ => 1) a.Mate.Ring.Members + cntL XItem.ct a.Mate.Items + cntL (fun _ => 1) a.Mate.Level + cntL (fun _ => 1) a.Mate.Texts + 1 + 1 + 1 + 1 : Nat) : Int), ((k + 1 + 1 + 1 + 1 + cntL (fun _ => 1) a.Mate.Ring.Members + cntL XItem.ct a.Mate.Items + cntL (fun _ => 1) a.Mate.Level + cntL (fun _ => 1) a.Mate.Texts + 1 + 1 + 1 + 1 + 1 : Nat) : Int), ((k + 1 + 1 + 1 + 1 + cntL (fun _ => 1) a.Mate.Ring.Members + cntL XItem.ct a.Mate.Items + cntL (fun _ => 1) a.Mate.Level + cntL (fun _ => 1) a.Mate.Texts + 1 + 1 + 1 + 1 + 1 + 1 : Nat) : Int), ((k + 1 + 1 + 1 + 1 + cntL (fun _ => 1) a.Mate.Ring.Members + cntL XItem.ct a.Mate.Items + cntL (fun _ => 1) a.Mate.Level + cntL (fun _ => 1) a.Mate.Texts + 1 + 1 + 1 + 1 + 1 + 1 + 1 : Nat) : Int), ((k + 1 + 1 + 1 + 1 + cntL (fun _ => 1) a.Mate.Ring.Members + cntL XItem.ct a.Mate.Items + cntL (fun _ => 1) a.Mate.Level + cntL (fun _ => 1) a.Mate.Texts + 1 + 1 + 1 + 1 + 1 + 1 + 1 + 1 : Nat) : Int), (mkL (fun n _ => (n : Int)) (fun _ => 1) (k + 1 + 1 + 1 + 1 + cntL (fun _ => 1) a.Mate.Ring.Members + cntL XItem.ct a.Mate.Items + cntL (fun _ => 1) a.Mate.Level + cntL (fun _ => 1) a.Mate.Texts + 1 + 1 + 1 + 1 + 1 + 1 + 1 + 1 + 1) a.Mate.Last.Wants)⟩⟩, ((k + 1 + 1 + 1 + 1 + cntL (fun _ => 1) a.Mate.Ring.Members + cntL XItem.ct a.Mate.Items + cntL (fun _ => 1) a.Mate.Level + cntL (fun _ => 1) a.Mate.Texts + 1 + 1 + 1 + 1 + 1 + 1 + 1 + 1 + 1 + cntL (fun _ => 1) a.Mate.Last.Wants : Nat) : Int), ((k + 1 + 1 + 1 + 1 + cntL (fun _ => 1) a.Mate.Ring.Members + cntL XItem.ct a.Mate.Items + cntL (fun _ => 1) a.Mate.Level + cntL (fun _ => 1) a.Mate.Texts + 1 + 1 + 1 + 1 + 1 + 1 + 1 + 1 + 1 + cntL (fun _ => 1) a.Mate.Last.Wants + 1 : Nat) : Int), ⟨((k + 1 + 1 + 1 + 1 + cntL (fun _ => 1) a.Mate.Ring.Members + cntL XItem.ct a.Mate.Items + cntL (fun _ => 1) a.Mate.Level + cntL (fun _ => 1) a.Mate.Texts + 1 + 1 + 1 + 1 + 1 + 1 + 1 + 1 + 1 + cntL (fun _ => 1) a.Mate.Last.Wants + 1 + 1 : Nat) : Int), (mkL (fun n _ => (n : Int)) (fun _ => 1) (k + 1 + 1 + 1 + 1 + cntL (fun _ => 1) a.Mate.Ring.Members + cntL XItem.ct a.Mate.Items + cntL (fun _ => 1) a.Mate.Level + cntL (fun _ => 1) a.Mate.Texts + 1 + 1 + 1 + 1 + 1 + 1 + 1 + 1 + 1 + cntL (fun _ => 1) a.Mate.Last.Wants + 1 + 1 + 1) a.Joining.Members)⟩, (mkL XBundle.mrk XBundle.ct (k + 1 + 1 + 1 + 1 + cntL (fun _ => 1) a.Mate.Ring.Members + cntL XItem.ct a.Mate.Items + cntL (fun _ => 1) a.Mate.Level + cntL (fun _ => 1) a.Mate.Texts + 1 + 1 + 1 + 1 + 1 + 1 + 1 + 1 + 1 + cntL (fun _ => 1) a.Mate.Last.Wants + 1 + 1 + 1 + cntL (fun _ => 1) a.Joining.Members) a.Bundles), (mkL XEvent.mrk XEvent.ct (k + 1 + 1 + 1 + 1 + cntL (fun _ => 1) a.Mate.Ring.Members + cntL XItem.ct a.Mate.Items + cntL (fun _ => 1) a.Mate.Level + cntL (fun _ => 1) a.Mate.Texts + 1 + 1 + 1 + 1 + 1 + 1 + 1 + 1 + 1 + cntL (fun _ => 1) a.Mate.Last.Wants + 1 + 1 + 1 + cntL (fun _ => 1) a.Joining.Members + cntL XBundle.ct a.Bundles) a.Log)⟩
theorem ct_Daemon (a : XDaemon) : a.ct ≤ 64 * (a.ms + 1) := by
  have h0 := cnt1_le a.Mate.Ring.Members
  have h1 := cntL_le XItem.ct XItem.ms ct_Item a.Mate.Items
  have h2 := cnt1_le a.Mate.Level
  have h3 := cnts_le a.Mate.Texts
  have h4 := cnt1_le a.Mate.Last.Wants
  have h5 := cnt1_le a.Joining.Members
  have h6 := cntL_le XBundle.ct XBundle.ms ct_Bundle a.Bundles
  have h7 := cntL_le XEvent.ct XEvent.ms ct_Event a.Log
  simp only [XDaemon.ct, XDaemon.ms, XMate.ms, XRing.ms, XToken.ms]
  omega
def XDaemon.vct (a : XDaemon) : Nat := cntL (fun _ => 1) a.Mate.Ring.Members + cntL XItem.ct a.Mate.Items + cntL (fun _ => 1) a.Mate.Level + cntL (fun _ => 1) a.Mate.Texts + cntL (fun _ => 1) a.Mate.Last.Wants + cntL (fun _ => 1) a.Joining.Members + cntL XBundle.ct a.Bundles + cntL XEvent.ct a.Log
def XDaemon.vmk (k : Nat) (a : XDaemon) : XDaemon := ⟨a.Id, a.Dead, ⟨a.Mate.Id, ⟨a.Mate.Ring.Id, (mkL (fun n _ => (n : Int)) (fun _ => 1) (k) a.Mate.Ring.Members)⟩, (mkL XItem.mrk XItem.ct (k + cntL (fun _ => 1) a.Mate.Ring.Members) a.Mate.Items), (mkL (fun n _ => (n : Int)) (fun _ => 1) (k + cntL (fun _ => 1) a.Mate.Ring.Members + cntL XItem.ct a.Mate.Items) a.Mate.Level), (mkL (fun n _ => markB n) (fun _ => 1) (k + cntL (fun _ => 1) a.Mate.Ring.Members + cntL XItem.ct a.Mate.Items + cntL (fun _ => 1) a.Mate.Level) a.Mate.Texts), a.Mate.Round, a.Mate.Seen, a.Mate.Line, a.Mate.Heard, ⟨a.Mate.Last.Conf, a.Mate.Last.Round, a.Mate.Last.Seq, a.Mate.Last.Aru, a.Mate.Last.By, (mkL (fun n _ => (n : Int)) (fun _ => 1) (k + cntL (fun _ => 1) a.Mate.Ring.Members + cntL XItem.ct a.Mate.Items + cntL (fun _ => 1) a.Mate.Level + cntL (fun _ => 1) a.Mate.Texts) a.Mate.Last.Wants)⟩⟩, a.Most, a.Old, ⟨a.Joining.Id, (mkL (fun n _ => (n : Int)) (fun _ => 1) (k + cntL (fun _ => 1) a.Mate.Ring.Members + cntL XItem.ct a.Mate.Items + cntL (fun _ => 1) a.Mate.Level + cntL (fun _ => 1) a.Mate.Texts + cntL (fun _ => 1) a.Mate.Last.Wants) a.Joining.Members)⟩, (mkL XBundle.mrk XBundle.ct (k + cntL (fun _ => 1) a.Mate.Ring.Members + cntL XItem.ct a.Mate.Items + cntL (fun _ => 1) a.Mate.Level + cntL (fun _ => 1) a.Mate.Texts + cntL (fun _ => 1) a.Mate.Last.Wants + cntL (fun _ => 1) a.Joining.Members) a.Bundles), (mkL XEvent.mrk XEvent.ct (k + cntL (fun _ => 1) a.Mate.Ring.Members + cntL XItem.ct a.Mate.Items + cntL (fun _ => 1) a.Mate.Level + cntL (fun _ => 1) a.Mate.Texts + cntL (fun _ => 1) a.Mate.Last.Wants + cntL (fun _ => 1) a.Joining.Members + cntL XBundle.ct a.Bundles) a.Log)⟩
theorem vct_Daemon (a : XDaemon) : a.vct ≤ 64 * a.ms := by
  have h0 := cnt1_le a.Mate.Ring.Members
  have h1 := cntL_le XItem.ct XItem.ms ct_Item a.Mate.Items
  have h2 := cnt1_le a.Mate.Level
  have h3 := cnts_le a.Mate.Texts
  have h4 := cnt1_le a.Mate.Last.Wants
  have h5 := cnt1_le a.Joining.Members
  have h6 := cntL_le XBundle.ct XBundle.ms ct_Bundle a.Bundles
  have h7 := cntL_le XEvent.ct XEvent.ms ct_Event a.Log
  simp only [XDaemon.vct, XDaemon.ms, XMate.ms, XRing.ms, XToken.ms]
  omega
structure XLetter where
  Kind : Int
  To : Int
  Conf : Int
  Item : XItem
  Token : XToken
  Bundle : XBundle
  deriving DecidableEq
def XLetter.row (a : XLetter) : Row := [.lit (.int .i64 a.Kind), .lit (.int .i64 a.To), .lit (.int .i64 a.Conf), .lit (.int .i64 a.Item.Seq), .lit (.int .i64 a.Item.From), .lit (.int .i64 a.Item.Level), .lit (.string a.Item.Text), .lit (.int .i64 a.Token.Conf), .lit (.int .i64 a.Token.Round), .lit (.int .i64 a.Token.Seq), .lit (.int .i64 a.Token.Aru), .lit (.int .i64 a.Token.By), .sl .ow 1 (a.Token.Wants.map intR), .lit (.int .i64 a.Bundle.From), .lit (.int .i64 a.Bundle.New), .lit (.int .i64 a.Bundle.Old), .sl .ow 4 (a.Bundle.Items.map XItem.row)]
def XLetter.vw (a : XLetter) : List Cl := [.ow (.lit (.int .i64 a.Kind)), .ow (.lit (.int .i64 a.To)), .ow (.lit (.int .i64 a.Conf)), .ow (.lit (.int .i64 a.Item.Seq)), .ow (.lit (.int .i64 a.Item.From)), .ow (.lit (.int .i64 a.Item.Level)), .ow (.lit (.string a.Item.Text)), .ow (.lit (.int .i64 a.Token.Conf)), .ow (.lit (.int .i64 a.Token.Round)), .ow (.lit (.int .i64 a.Token.Seq)), .ow (.lit (.int .i64 a.Token.Aru)), .ow (.lit (.int .i64 a.Token.By)), .vw none [] (.sl .ow 1 (a.Token.Wants.map intR)), .ow (.lit (.int .i64 a.Bundle.From)), .ow (.lit (.int .i64 a.Bundle.New)), .ow (.lit (.int .i64 a.Bundle.Old)), .vw none [] (.sl .ow 4 (a.Bundle.Items.map XItem.row))]
def XLetter.own (a : XLetter) : List Cl := [.ow (.lit (.int .i64 a.Kind)), .ow (.lit (.int .i64 a.To)), .ow (.lit (.int .i64 a.Conf)), .ow (.lit (.int .i64 a.Item.Seq)), .ow (.lit (.int .i64 a.Item.From)), .ow (.lit (.int .i64 a.Item.Level)), .ow (.lit (.string a.Item.Text)), .ow (.lit (.int .i64 a.Token.Conf)), .ow (.lit (.int .i64 a.Token.Round)), .ow (.lit (.int .i64 a.Token.Seq)), .ow (.lit (.int .i64 a.Token.Aru)), .ow (.lit (.int .i64 a.Token.By)), .ow (.sl .ow 1 (a.Token.Wants.map intR)), .ow (.lit (.int .i64 a.Bundle.From)), .ow (.lit (.int .i64 a.Bundle.New)), .ow (.lit (.int .i64 a.Bundle.Old)), .ow (.sl .ow 4 (a.Bundle.Items.map XItem.row))]
def XLetter.ms (a : XLetter) : Nat := a.Item.ms + a.Token.ms + a.Bundle.ms
def XLetter.zero : XLetter := ⟨0, 0, 0, XItem.zero, XToken.zero, XBundle.zero⟩
def XLetter.ct (a : XLetter) : Nat := 1 + 1 + 1 + 1 + 1 + 1 + 1 + 1 + 1 + 1 + 1 + 1 + cntL (fun _ => 1) a.Token.Wants + 1 + 1 + 1 + cntL XItem.ct a.Bundle.Items
def XLetter.mrk (k : Nat) (a : XLetter) : XLetter := ⟨((k : Nat) : Int), ((k + 1 : Nat) : Int), ((k + 1 + 1 : Nat) : Int), ⟨((k + 1 + 1 + 1 : Nat) : Int), ((k + 1 + 1 + 1 + 1 : Nat) : Int), ((k + 1 + 1 + 1 + 1 + 1 : Nat) : Int), (markB (k + 1 + 1 + 1 + 1 + 1 + 1))⟩, ⟨((k + 1 + 1 + 1 + 1 + 1 + 1 + 1 : Nat) : Int), ((k + 1 + 1 + 1 + 1 + 1 + 1 + 1 + 1 : Nat) : Int), ((k + 1 + 1 + 1 + 1 + 1 + 1 + 1 + 1 + 1 : Nat) : Int), ((k + 1 + 1 + 1 + 1 + 1 + 1 + 1 + 1 + 1 + 1 : Nat) : Int), ((k + 1 + 1 + 1 + 1 + 1 + 1 + 1 + 1 + 1 + 1 + 1 : Nat) : Int), (mkL (fun n _ => (n : Int)) (fun _ => 1) (k + 1 + 1 + 1 + 1 + 1 + 1 + 1 + 1 + 1 + 1 + 1 + 1) a.Token.Wants)⟩, ⟨((k + 1 + 1 + 1 + 1 + 1 + 1 + 1 + 1 + 1 + 1 + 1 + 1 + cntL (fun _ => 1) a.Token.Wants : Nat) : Int), ((k + 1 + 1 + 1 + 1 + 1 + 1 + 1 + 1 + 1 + 1 + 1 + 1 + cntL (fun _ => 1) a.Token.Wants + 1 : Nat) : Int), ((k + 1 + 1 + 1 + 1 + 1 + 1 + 1 + 1 + 1 + 1 + 1 + 1 + cntL (fun _ => 1) a.Token.Wants + 1 + 1 : Nat) : Int), (mkL XItem.mrk XItem.ct (k + 1 + 1 + 1 + 1 + 1 + 1 + 1 + 1 + 1 + 1 + 1 + 1 + cntL (fun _ => 1) a.Token.Wants + 1 + 1 + 1) a.Bundle.Items)⟩⟩
theorem ct_Letter (a : XLetter) : a.ct ≤ 64 * (a.ms + 1) := by
  have h0 := cnt1_le a.Token.Wants
  have h1 := cntL_le XItem.ct XItem.ms ct_Item a.Bundle.Items
  simp only [XLetter.ct, XLetter.ms, XBundle.ms, XItem.ms, XToken.ms]
  omega
def XLetter.vct (a : XLetter) : Nat := cntL (fun _ => 1) a.Token.Wants + cntL XItem.ct a.Bundle.Items
def XLetter.vmk (k : Nat) (a : XLetter) : XLetter := ⟨a.Kind, a.To, a.Conf, ⟨a.Item.Seq, a.Item.From, a.Item.Level, a.Item.Text⟩, ⟨a.Token.Conf, a.Token.Round, a.Token.Seq, a.Token.Aru, a.Token.By, (mkL (fun n _ => (n : Int)) (fun _ => 1) (k) a.Token.Wants)⟩, ⟨a.Bundle.From, a.Bundle.New, a.Bundle.Old, (mkL XItem.mrk XItem.ct (k + cntL (fun _ => 1) a.Token.Wants) a.Bundle.Items)⟩⟩
theorem vct_Letter (a : XLetter) : a.vct ≤ 64 * a.ms := by
  have h0 := cnt1_le a.Token.Wants
  have h1 := cntL_le XItem.ct XItem.ms ct_Item a.Bundle.Items
  simp only [XLetter.vct, XLetter.ms, XBundle.ms, XItem.ms, XToken.ms]
  omega
structure XWorld where
  Rings : List XRing
  Daemons : List XDaemon
  Letters : List XLetter
  Numbered : List XEvent
  deriving DecidableEq
def XWorld.row (a : XWorld) : Row := [.sl .ow 2 (a.Rings.map XRing.row), .sl .ow 24 (a.Daemons.map XDaemon.row), .sl .ow 17 (a.Letters.map XLetter.row), .sl .ow 8 (a.Numbered.map XEvent.row)]
def XWorld.vw (a : XWorld) : List Cl := [.vw none [] (.sl .ow 2 (a.Rings.map XRing.row)), .vw none [] (.sl .ow 24 (a.Daemons.map XDaemon.row)), .vw none [] (.sl .ow 17 (a.Letters.map XLetter.row)), .vw none [] (.sl .ow 8 (a.Numbered.map XEvent.row))]
def XWorld.own (a : XWorld) : List Cl := [.ow (.sl .ow 2 (a.Rings.map XRing.row)), .ow (.sl .ow 24 (a.Daemons.map XDaemon.row)), .ow (.sl .ow 17 (a.Letters.map XLetter.row)), .ow (.sl .ow 8 (a.Numbered.map XEvent.row))]
def XWorld.ms (a : XWorld) : Nat := msL XRing.ms a.Rings + msL XDaemon.ms a.Daemons + msL XLetter.ms a.Letters + msL XEvent.ms a.Numbered
def XWorld.zero : XWorld := ⟨[], [], [], []⟩
def XWorld.ct (a : XWorld) : Nat := cntL XRing.ct a.Rings + cntL XDaemon.ct a.Daemons + cntL XLetter.ct a.Letters + cntL XEvent.ct a.Numbered
def XWorld.mrk (k : Nat) (a : XWorld) : XWorld := ⟨(mkL XRing.mrk XRing.ct (k) a.Rings), (mkL XDaemon.mrk XDaemon.ct (k + cntL XRing.ct a.Rings) a.Daemons), (mkL XLetter.mrk XLetter.ct (k + cntL XRing.ct a.Rings + cntL XDaemon.ct a.Daemons) a.Letters), (mkL XEvent.mrk XEvent.ct (k + cntL XRing.ct a.Rings + cntL XDaemon.ct a.Daemons + cntL XLetter.ct a.Letters) a.Numbered)⟩
theorem ct_World (a : XWorld) : a.ct ≤ 64 * (a.ms + 1) := by
  have h0 := cntL_le XRing.ct XRing.ms ct_Ring a.Rings
  have h1 := cntL_le XDaemon.ct XDaemon.ms ct_Daemon a.Daemons
  have h2 := cntL_le XLetter.ct XLetter.ms ct_Letter a.Letters
  have h3 := cntL_le XEvent.ct XEvent.ms ct_Event a.Numbered
  simp only [XWorld.ct, XWorld.ms]
  omega
def XWorld.vct (a : XWorld) : Nat := cntL XRing.ct a.Rings + cntL XDaemon.ct a.Daemons + cntL XLetter.ct a.Letters + cntL XEvent.ct a.Numbered
def XWorld.vmk (k : Nat) (a : XWorld) : XWorld := ⟨(mkL XRing.mrk XRing.ct (k) a.Rings), (mkL XDaemon.mrk XDaemon.ct (k + cntL XRing.ct a.Rings) a.Daemons), (mkL XLetter.mrk XLetter.ct (k + cntL XRing.ct a.Rings + cntL XDaemon.ct a.Daemons) a.Letters), (mkL XEvent.mrk XEvent.ct (k + cntL XRing.ct a.Rings + cntL XDaemon.ct a.Daemons + cntL XLetter.ct a.Letters) a.Numbered)⟩
theorem vct_World (a : XWorld) : a.vct ≤ 64 * a.ms := by
  have h0 := cntL_le XRing.ct XRing.ms ct_Ring a.Rings
  have h1 := cntL_le XDaemon.ct XDaemon.ms ct_Daemon a.Daemons
  have h2 := cntL_le XLetter.ct XLetter.ms ct_Letter a.Letters
  have h3 := cntL_le XEvent.ct XEvent.ms ct_Event a.Numbered
  simp only [XWorld.vct, XWorld.ms]
  omega
structure XGroup where
  Name : ByteArray
  Members : List ByteArray
  deriving DecidableEq
def XGroup.row (a : XGroup) : Row := [.lit (.string a.Name), .sl .ow 1 (a.Members.map strR)]
def XGroup.vw (a : XGroup) : List Cl := [.ow (.lit (.string a.Name)), .vw none [] (.sl .ow 1 (a.Members.map strR))]
def XGroup.own (a : XGroup) : List Cl := [.ow (.lit (.string a.Name)), .ow (.sl .ow 1 (a.Members.map strR))]
def XGroup.ms (a : XGroup) : Nat := a.Name.size + msL ByteArray.size a.Members
def XGroup.zero : XGroup := ⟨emp, []⟩
def XGroup.ct (a : XGroup) : Nat := 1 + cntL (fun _ => 1) a.Members
def XGroup.mrk (k : Nat) (a : XGroup) : XGroup := ⟨(markB (k)), (mkL (fun n _ => markB n) (fun _ => 1) (k + 1) a.Members)⟩
theorem ct_Group (a : XGroup) : a.ct ≤ 64 * (a.ms + 1) := by
  have h0 := cnts_le a.Members
  simp only [XGroup.ct, XGroup.ms]
  omega
def XGroup.vct (a : XGroup) : Nat := cntL (fun _ => 1) a.Members
def XGroup.vmk (k : Nat) (a : XGroup) : XGroup := ⟨a.Name, (mkL (fun n _ => markB n) (fun _ => 1) (k) a.Members)⟩
theorem vct_Group (a : XGroup) : a.vct ≤ 64 * a.ms := by
  have h0 := cnts_le a.Members
  simp only [XGroup.vct, XGroup.ms]
  omega
structure XTable where
  Groups : List XGroup
  deriving DecidableEq
def XTable.row (a : XTable) : Row := [.sl .ow 2 (a.Groups.map XGroup.row)]
def XTable.vw (a : XTable) : List Cl := [.vw none [] (.sl .ow 2 (a.Groups.map XGroup.row))]
def XTable.own (a : XTable) : List Cl := [.ow (.sl .ow 2 (a.Groups.map XGroup.row))]
def XTable.ms (a : XTable) : Nat := msL XGroup.ms a.Groups
def XTable.zero : XTable := ⟨[]⟩
def XTable.ct (a : XTable) : Nat := cntL XGroup.ct a.Groups
def XTable.mrk (k : Nat) (a : XTable) : XTable := ⟨(mkL XGroup.mrk XGroup.ct (k) a.Groups)⟩
theorem ct_Table (a : XTable) : a.ct ≤ 64 * (a.ms + 1) := by
  have h0 := cntL_le XGroup.ct XGroup.ms ct_Group a.Groups
  simp only [XTable.ct, XTable.ms]
  omega
def XTable.vct (a : XTable) : Nat := cntL XGroup.ct a.Groups
def XTable.vmk (k : Nat) (a : XTable) : XTable := ⟨(mkL XGroup.mrk XGroup.ct (k) a.Groups)⟩
theorem vct_Table (a : XTable) : a.vct ≤ 64 * a.ms := by
  have h0 := cntL_le XGroup.ct XGroup.ms ct_Group a.Groups
  simp only [XTable.vct, XTable.ms]
  omega
structure XBox where
  Name : ByteArray
  Texts : List ByteArray
  Over : Bool
  deriving DecidableEq
def XBox.row (a : XBox) : Row := [.lit (.string a.Name), .sl .ow 1 (a.Texts.map strR), .lit (.bool a.Over)]
def XBox.vw (a : XBox) : List Cl := [.ow (.lit (.string a.Name)), .vw none [] (.sl .ow 1 (a.Texts.map strR)), .ow (.lit (.bool a.Over))]
def XBox.own (a : XBox) : List Cl := [.ow (.lit (.string a.Name)), .ow (.sl .ow 1 (a.Texts.map strR)), .ow (.lit (.bool a.Over))]
def XBox.ms (a : XBox) : Nat := a.Name.size + msL ByteArray.size a.Texts
def XBox.zero : XBox := ⟨emp, [], false⟩
def XBox.ct (a : XBox) : Nat := 1 + cntL (fun _ => 1) a.Texts + 1
def XBox.mrk (k : Nat) (a : XBox) : XBox := ⟨(markB (k)), (mkL (fun n _ => markB n) (fun _ => 1) (k + 1) a.Texts), (decide (((k + 1 + cntL (fun _ => 1) a.Texts : Nat) : Int).tmod 3 = 0))⟩
theorem ct_Box (a : XBox) : a.ct ≤ 64 * (a.ms + 1) := by
  have h0 := cnts_le a.Texts
  simp only [XBox.ct, XBox.ms]
  omega
def XBox.vct (a : XBox) : Nat := cntL (fun _ => 1) a.Texts
def XBox.vmk (k : Nat) (a : XBox) : XBox := ⟨a.Name, (mkL (fun n _ => markB n) (fun _ => 1) (k) a.Texts), a.Over⟩
theorem vct_Box (a : XBox) : a.vct ≤ 64 * a.ms := by
  have h0 := cnts_le a.Texts
  simp only [XBox.vct, XBox.ms]
  omega
structure XSession where
  Daemon : Int
  Name : ByteArray
  Read : XReader
  Shut : Bool
  In : List ByteArray
  deriving DecidableEq
def XSession.row (a : XSession) : Row := [.lit (.int .i64 a.Daemon), .lit (.string a.Name), .lit (.string a.Read.Rest), .lit (.bool a.Read.Bad), .lit (.bool a.Shut), .sl .ow 1 (a.In.map strR)]
def XSession.vw (a : XSession) : List Cl := [.ow (.lit (.int .i64 a.Daemon)), .ow (.lit (.string a.Name)), .ow (.lit (.string a.Read.Rest)), .ow (.lit (.bool a.Read.Bad)), .ow (.lit (.bool a.Shut)), .vw none [] (.sl .ow 1 (a.In.map strR))]
def XSession.own (a : XSession) : List Cl := [.ow (.lit (.int .i64 a.Daemon)), .ow (.lit (.string a.Name)), .ow (.lit (.string a.Read.Rest)), .ow (.lit (.bool a.Read.Bad)), .ow (.lit (.bool a.Shut)), .ow (.sl .ow 1 (a.In.map strR))]
def XSession.ms (a : XSession) : Nat := a.Name.size + a.Read.ms + msL ByteArray.size a.In
def XSession.zero : XSession := ⟨0, emp, XReader.zero, false, []⟩
def XSession.ct (a : XSession) : Nat := 1 + 1 + 1 + 1 + 1 + cntL (fun _ => 1) a.In
def XSession.mrk (k : Nat) (a : XSession) : XSession := ⟨((k : Nat) : Int), (markB (k + 1)), ⟨(markB (k + 1 + 1)), (decide (((k + 1 + 1 + 1 : Nat) : Int).tmod 3 = 0))⟩, (decide (((k + 1 + 1 + 1 + 1 : Nat) : Int).tmod 3 = 0)), (mkL (fun n _ => markB n) (fun _ => 1) (k + 1 + 1 + 1 + 1 + 1) a.In)⟩
theorem ct_Session (a : XSession) : a.ct ≤ 64 * (a.ms + 1) := by
  have h0 := cnts_le a.In
  simp only [XSession.ct, XSession.ms, XReader.ms]
  omega
def XSession.vct (a : XSession) : Nat := cntL (fun _ => 1) a.In
def XSession.vmk (k : Nat) (a : XSession) : XSession := ⟨a.Daemon, a.Name, ⟨a.Read.Rest, a.Read.Bad⟩, a.Shut, (mkL (fun n _ => markB n) (fun _ => 1) (k) a.In)⟩
theorem vct_Session (a : XSession) : a.vct ≤ 64 * a.ms := by
  have h0 := cnts_le a.In
  simp only [XSession.vct, XSession.ms, XReader.ms]
  omega
structure XCaller where
  Session : XSession
  Box : XBox
  Fault : ByteArray
  Got : List ByteArray
  deriving DecidableEq
def XCaller.row (a : XCaller) : Row := [.lit (.int .i64 a.Session.Daemon), .lit (.string a.Session.Name), .lit (.string a.Session.Read.Rest), .lit (.bool a.Session.Read.Bad), .lit (.bool a.Session.Shut), .sl .ow 1 (a.Session.In.map strR), .lit (.string a.Box.Name), .sl .ow 1 (a.Box.Texts.map strR), .lit (.bool a.Box.Over), .lit (.string a.Fault), .sl .ow 1 (a.Got.map strR)]
def XCaller.vw (a : XCaller) : List Cl := [.ow (.lit (.int .i64 a.Session.Daemon)), .ow (.lit (.string a.Session.Name)), .ow (.lit (.string a.Session.Read.Rest)), .ow (.lit (.bool a.Session.Read.Bad)), .ow (.lit (.bool a.Session.Shut)), .vw none [] (.sl .ow 1 (a.Session.In.map strR)), .ow (.lit (.string a.Box.Name)), .vw none [] (.sl .ow 1 (a.Box.Texts.map strR)), .ow (.lit (.bool a.Box.Over)), .ow (.lit (.string a.Fault)), .vw none [] (.sl .ow 1 (a.Got.map strR))]
def XCaller.own (a : XCaller) : List Cl := [.ow (.lit (.int .i64 a.Session.Daemon)), .ow (.lit (.string a.Session.Name)), .ow (.lit (.string a.Session.Read.Rest)), .ow (.lit (.bool a.Session.Read.Bad)), .ow (.lit (.bool a.Session.Shut)), .ow (.sl .ow 1 (a.Session.In.map strR)), .ow (.lit (.string a.Box.Name)), .ow (.sl .ow 1 (a.Box.Texts.map strR)), .ow (.lit (.bool a.Box.Over)), .ow (.lit (.string a.Fault)), .ow (.sl .ow 1 (a.Got.map strR))]
def XCaller.ms (a : XCaller) : Nat := a.Session.ms + a.Box.ms + a.Fault.size + msL ByteArray.size a.Got
def XCaller.zero : XCaller := ⟨XSession.zero, XBox.zero, emp, []⟩
def XCaller.ct (a : XCaller) : Nat := 1 + 1 + 1 + 1 + 1 + cntL (fun _ => 1) a.Session.In + 1 + cntL (fun _ => 1) a.Box.Texts + 1 + 1 + cntL (fun _ => 1) a.Got
def XCaller.mrk (k : Nat) (a : XCaller) : XCaller := ⟨⟨((k : Nat) : Int), (markB (k + 1)), ⟨(markB (k + 1 + 1)), (decide (((k + 1 + 1 + 1 : Nat) : Int).tmod 3 = 0))⟩, (decide (((k + 1 + 1 + 1 + 1 : Nat) : Int).tmod 3 = 0)), (mkL (fun n _ => markB n) (fun _ => 1) (k + 1 + 1 + 1 + 1 + 1) a.Session.In)⟩, ⟨(markB (k + 1 + 1 + 1 + 1 + 1 + cntL (fun _ => 1) a.Session.In)), (mkL (fun n _ => markB n) (fun _ => 1) (k + 1 + 1 + 1 + 1 + 1 + cntL (fun _ => 1) a.Session.In + 1) a.Box.Texts), (decide (((k + 1 + 1 + 1 + 1 + 1 + cntL (fun _ => 1) a.Session.In + 1 + cntL (fun _ => 1) a.Box.Texts : Nat) : Int).tmod 3 = 0))⟩, (markB (k + 1 + 1 + 1 + 1 + 1 + cntL (fun _ => 1) a.Session.In + 1 + cntL (fun _ => 1) a.Box.Texts + 1)), (mkL (fun n _ => markB n) (fun _ => 1) (k + 1 + 1 + 1 + 1 + 1 + cntL (fun _ => 1) a.Session.In + 1 + cntL (fun _ => 1) a.Box.Texts + 1 + 1) a.Got)⟩
theorem ct_Caller (a : XCaller) : a.ct ≤ 64 * (a.ms + 1) := by
  have h0 := cnts_le a.Session.In
  have h1 := cnts_le a.Box.Texts
  have h2 := cnts_le a.Got
  simp only [XCaller.ct, XCaller.ms, XBox.ms, XReader.ms, XSession.ms]
  omega
def XCaller.vct (a : XCaller) : Nat := cntL (fun _ => 1) a.Session.In + cntL (fun _ => 1) a.Box.Texts + cntL (fun _ => 1) a.Got
def XCaller.vmk (k : Nat) (a : XCaller) : XCaller := ⟨⟨a.Session.Daemon, a.Session.Name, ⟨a.Session.Read.Rest, a.Session.Read.Bad⟩, a.Session.Shut, (mkL (fun n _ => markB n) (fun _ => 1) (k) a.Session.In)⟩, ⟨a.Box.Name, (mkL (fun n _ => markB n) (fun _ => 1) (k + cntL (fun _ => 1) a.Session.In) a.Box.Texts), a.Box.Over⟩, a.Fault, (mkL (fun n _ => markB n) (fun _ => 1) (k + cntL (fun _ => 1) a.Session.In + cntL (fun _ => 1) a.Box.Texts) a.Got)⟩
theorem vct_Caller (a : XCaller) : a.vct ≤ 64 * a.ms := by
  have h0 := cnts_le a.Session.In
  have h1 := cnts_le a.Box.Texts
  have h2 := cnts_le a.Got
  simp only [XCaller.vct, XCaller.ms, XBox.ms, XReader.ms, XSession.ms]
  omega
structure XHall where
  World : XWorld
  Callers : List XCaller
  Tables : List XTable
  Seen : List Int
  deriving DecidableEq
def XHall.row (a : XHall) : Row := [.sl .ow 2 (a.World.Rings.map XRing.row), .sl .ow 24 (a.World.Daemons.map XDaemon.row), .sl .ow 17 (a.World.Letters.map XLetter.row), .sl .ow 8 (a.World.Numbered.map XEvent.row), .sl .ow 11 (a.Callers.map XCaller.row), .sl .ow 1 (a.Tables.map XTable.row), .sl .ow 1 (a.Seen.map intR)]
def XHall.vw (a : XHall) : List Cl := [.vw none [] (.sl .ow 2 (a.World.Rings.map XRing.row)), .vw none [] (.sl .ow 24 (a.World.Daemons.map XDaemon.row)), .vw none [] (.sl .ow 17 (a.World.Letters.map XLetter.row)), .vw none [] (.sl .ow 8 (a.World.Numbered.map XEvent.row)), .vw none [] (.sl .ow 11 (a.Callers.map XCaller.row)), .vw none [] (.sl .ow 1 (a.Tables.map XTable.row)), .vw none [] (.sl .ow 1 (a.Seen.map intR))]
def XHall.own (a : XHall) : List Cl := [.ow (.sl .ow 2 (a.World.Rings.map XRing.row)), .ow (.sl .ow 24 (a.World.Daemons.map XDaemon.row)), .ow (.sl .ow 17 (a.World.Letters.map XLetter.row)), .ow (.sl .ow 8 (a.World.Numbered.map XEvent.row)), .ow (.sl .ow 11 (a.Callers.map XCaller.row)), .ow (.sl .ow 1 (a.Tables.map XTable.row)), .ow (.sl .ow 1 (a.Seen.map intR))]
def XHall.ms (a : XHall) : Nat := a.World.ms + msL XCaller.ms a.Callers + msL XTable.ms a.Tables + a.Seen.length
def XHall.zero : XHall := ⟨XWorld.zero, [], [], []⟩
def XHall.ct (a : XHall) : Nat := cntL XRing.ct a.World.Rings + cntL XDaemon.ct a.World.Daemons + cntL XLetter.ct a.World.Letters + cntL XEvent.ct a.World.Numbered + cntL XCaller.ct a.Callers + cntL XTable.ct a.Tables + cntL (fun _ => 1) a.Seen
def XHall.mrk (k : Nat) (a : XHall) : XHall := ⟨⟨(mkL XRing.mrk XRing.ct (k) a.World.Rings), (mkL XDaemon.mrk XDaemon.ct (k + cntL XRing.ct a.World.Rings) a.World.Daemons), (mkL XLetter.mrk XLetter.ct (k + cntL XRing.ct a.World.Rings + cntL XDaemon.ct a.World.Daemons) a.World.Letters), (mkL XEvent.mrk XEvent.ct (k + cntL XRing.ct a.World.Rings + cntL XDaemon.ct a.World.Daemons + cntL XLetter.ct a.World.Letters) a.World.Numbered)⟩, (mkL XCaller.mrk XCaller.ct (k + cntL XRing.ct a.World.Rings + cntL XDaemon.ct a.World.Daemons + cntL XLetter.ct a.World.Letters + cntL XEvent.ct a.World.Numbered) a.Callers), (mkL XTable.mrk XTable.ct (k + cntL XRing.ct a.World.Rings + cntL XDaemon.ct a.World.Daemons + cntL XLetter.ct a.World.Letters + cntL XEvent.ct a.World.Numbered + cntL XCaller.ct a.Callers) a.Tables), (mkL (fun n _ => (n : Int)) (fun _ => 1) (k + cntL XRing.ct a.World.Rings + cntL XDaemon.ct a.World.Daemons + cntL XLetter.ct a.World.Letters + cntL XEvent.ct a.World.Numbered + cntL XCaller.ct a.Callers + cntL XTable.ct a.Tables) a.Seen)⟩
theorem ct_Hall (a : XHall) : a.ct ≤ 64 * (a.ms + 1) := by
  have h0 := cntL_le XRing.ct XRing.ms ct_Ring a.World.Rings
  have h1 := cntL_le XDaemon.ct XDaemon.ms ct_Daemon a.World.Daemons
  have h2 := cntL_le XLetter.ct XLetter.ms ct_Letter a.World.Letters
  have h3 := cntL_le XEvent.ct XEvent.ms ct_Event a.World.Numbered
  have h4 := cntL_le XCaller.ct XCaller.ms ct_Caller a.Callers
  have h5 := cntL_le XTable.ct XTable.ms ct_Table a.Tables
  have h6 := cnt1_le a.Seen
  simp only [XHall.ct, XHall.ms, XWorld.ms]
  omega
def XHall.vct (a : XHall) : Nat := cntL XRing.ct a.World.Rings + cntL XDaemon.ct a.World.Daemons + cntL XLetter.ct a.World.Letters + cntL XEvent.ct a.World.Numbered + cntL XCaller.ct a.Callers + cntL XTable.ct a.Tables + cntL (fun _ => 1) a.Seen
def XHall.vmk (k : Nat) (a : XHall) : XHall := ⟨⟨(mkL XRing.mrk XRing.ct (k) a.World.Rings), (mkL XDaemon.mrk XDaemon.ct (k + cntL XRing.ct a.World.Rings) a.World.Daemons), (mkL XLetter.mrk XLetter.ct (k + cntL XRing.ct a.World.Rings + cntL XDaemon.ct a.World.Daemons) a.World.Letters), (mkL XEvent.mrk XEvent.ct (k + cntL XRing.ct a.World.Rings + cntL XDaemon.ct a.World.Daemons + cntL XLetter.ct a.World.Letters) a.World.Numbered)⟩, (mkL XCaller.mrk XCaller.ct (k + cntL XRing.ct a.World.Rings + cntL XDaemon.ct a.World.Daemons + cntL XLetter.ct a.World.Letters + cntL XEvent.ct a.World.Numbered) a.Callers), (mkL XTable.mrk XTable.ct (k + cntL XRing.ct a.World.Rings + cntL XDaemon.ct a.World.Daemons + cntL XLetter.ct a.World.Letters + cntL XEvent.ct a.World.Numbered + cntL XCaller.ct a.Callers) a.Tables), (mkL (fun n _ => (n : Int)) (fun _ => 1) (k + cntL XRing.ct a.World.Rings + cntL XDaemon.ct a.World.Daemons + cntL XLetter.ct a.World.Letters + cntL XEvent.ct a.World.Numbered + cntL XCaller.ct a.Callers + cntL XTable.ct a.Tables) a.Seen)⟩
theorem vct_Hall (a : XHall) : a.vct ≤ 64 * a.ms := by
  have h0 := cntL_le XRing.ct XRing.ms ct_Ring a.World.Rings
  have h1 := cntL_le XDaemon.ct XDaemon.ms ct_Daemon a.World.Daemons
  have h2 := cntL_le XLetter.ct XLetter.ms ct_Letter a.World.Letters
  have h3 := cntL_le XEvent.ct XEvent.ms ct_Event a.World.Numbered
  have h4 := cntL_le XCaller.ct XCaller.ms ct_Caller a.Callers
  have h5 := cntL_le XTable.ct XTable.ms ct_Table a.Tables
  have h6 := cnt1_le a.Seen
  simp only [XHall.vct, XHall.ms, XWorld.ms]
  omega
end Go.Eng

set_option maxRecDepth 100000
namespace Go.Eng
open Go.Proofs
noncomputable def c_laws_heldIntS : ACode := (.seq (.reg false [⟨none, .tk 4 (.k (.i .i64 0)), []⟩] [0, 1]) (.seq (.seq (.reg false [⟨none, .asg 5 (.k (.i .i64 0)), []⟩] [0, 1, 5]) (.block 0 (.loop [0, 1, 5] (.seq (.seq (.reg false [⟨none, .p 6 (.mv (.t 5)), []⟩, ⟨none, .p 7 (.mv (.t 0)), []⟩, ⟨none, .p 8 (.len false (.t 7)), []⟩, ⟨none, .p 9 (.bin .lss (.t 6) (.t 8)), []⟩] [0, 1, 5, 9]) (.cond (.t 9) .skip (.exit 0 [1]))) (.seq (.block 1 (.seq (.seq (.reg false [⟨none, .p 12 (.mv (.t 0)), []⟩, ⟨none, .p 13 (.mv (.t 5)), []⟩, ⟨none, .p 14 (.ia (.t 12) (.t 13) 1), []⟩, ⟨none, .p 15 (.ld (.t 14) 0 1 false), []⟩, ⟨none, .p 16 (.mv (.t 1)), []⟩, ⟨none, .p 17 (.bin .neq (.t 15) (.t 16)), []⟩] [0, 1, 5, 17]) (.cond (.t 17) (.seq (.reg false [⟨none, .tk 4 (.k (.i .i64 (-1))), []⟩] [4]) .ret) .skip)) (.reg false [⟨none, .p 18 (.mv (.t 1)), []⟩, ⟨none, .p 19 (.bin .add (.t 18) (.k (.i .i64 1))), []⟩, ⟨none, .asg 1 (.t 19), []⟩] [0, 1, 5]))) (.reg false [⟨none, .p 10 (.mv (.t 5)), []⟩, ⟨none, .p 11 (.bin .add (.t 10) (.k (.i .i64 1))), []⟩, ⟨none, .asg 5 (.t 11), []⟩] [0, 1, 5])))))) (.seq (.reg false [⟨none, .p 20 (.mv (.t 1)), []⟩, ⟨none, .tk 4 (.t 20), []⟩] [4]) .ret)))
theorem code_laws_heldIntS : ∃ c, Tryd.f31.body = some c ∧ cfit PP 21 c c_laws_heldIntS = true := by
  refine ⟨_, (rfl : Tryd.f31.body = some _), ?_⟩
  kernel_rfl
theorem t_heldIntS {G : Glob} (xs : List Int) (k : Nat) (hk : k + cntL (fun _ => 1) xs ≤ 1073741824) : FnD PP G 31 [.val false [.vw none [] (.sl .ow 1 ((mkL (fun (n : Nat) _ => (n : Int)) (fun _ => 1) k xs).map intR))], .val false [.ow (.lit (.int .i64 k))]] [] []
    [.v false [.ow (.lit (.int .i64 (k + cntL (fun _ => 1) xs : Nat)))]] [] [] := by
  refine fn_bd fun hbd => ?_
  have hx : (mkL (fun (n : Nat) _ => (n : Int)) (fun _ => 1) k xs).length ≤ 281474976710656 := hbd _ (by simp [hdsA, lenT, Cl.tree])
  rw [mkL_len] at hx
  clear hbd
  obtain ⟨cc, hb, hcf⟩ := code_laws_heldIntS
  refine fn_ok (fn := Tryd.f31) (specs := [.t 4]) (by kernel_rfl) hb (by show (21:Nat) ≤ 10000; omega) hcf (by kernel_rfl) (by show (2:Nat) ≤ 21; omega) (by simp) (by simp) rfl rfl (by simp) rfl ?_
  simp only [c_laws_heldIntS]
  push_cast
  refine cwp_loop (fun i : Nat => ⟨[(0, .val false [.vw none [] (.sl .ow 1 ((mkL (fun (n : Nat) _ => (n : Int)) (fun _ => 1) k xs).map intR))]), (1, .val false [.ow (.lit (.int .i64 (k + cntL (fun _ => 1) (xs.take i) : Nat)))]), (5, .val false [.ow (.lit (.int .i64 i))])], []⟩)
    (fun i => i ≤ xs.length) (fun i => xs.length - i) 0 rfl (by simp [cntL]; rfl) (by omega) ?_
  intro i hle
  have hlen : (mkL (fun (n : Nat) _ => (n : Int)) (fun _ => 1) k xs).length = xs.length := mkL_len _ _ _ _
  by_cases hi : i < xs.length
  · have hi2 : i < (mkL (fun (n : Nat) _ => (n : Int)) (fun _ => 1) k xs).length := by omega
    have hget : (mkL (fun (n : Nat) _ => (n : Int)) (fun _ => 1) k xs)[i] = (fun (n : Nat) _ => (n : Int)) (k + cntL (fun _ => 1) (xs.take i)) xs[i] := mkL_get _ _ _ _ _ hi _
    have hcl : k + cntL (fun _ => 1) (xs.take (i + 1)) = (k + cntL (fun _ => 1) (xs.take i)) + (fun _ => 1) xs[i] := cnt_step (fun _ => 1) xs k i hi
    have hKb : (k + cntL (fun _ => 1) (xs.take i)) + (fun _ => 1) xs[i] ≤ 1073741824 := Nat.le_trans (cnt_le (fun _ => 1) xs k i hi) hk
    generalize k + cntL (fun _ => 1) (xs.take i) = K at hcl hKb hget ⊢
    try simp only [Nat.add_zero] at hKb
    push_cast [getD_map hi2, hget, intR]
    refine cnd_dec (fun hlt => ?_) (fun hge => by omega)
    push_cast [getD_map hi2, hget, intR]
    try simp (disch := omega) only [wrap64]
    repeat (first | refine And.intro (by omega) ?_ | refine And.intro ⟨by omega, by omega⟩ ?_ | refine And.intro ⟨by omega, by omega, by omega⟩ ?_)
    try simp only [Int.natCast_add, Int.cast_ofNat_Int, Int.natCast_one]
    try refine cnd_dec (fun h => absurd rfl h) (fun _ => ?_)
    try push_cast [getD_map hi2, hget, intR]
    try simp (disch := omega) only [wrap64]
    refine ⟨i + 1, ?_, by omega, by omega⟩
    have hcl2 := congrArg (fun x : Nat => (x : Int)) hcl
    try simp only [Nat.add_zero, Int.natCast_add, Int.cast_ofNat_Int, Int.natCast_one] at hcl2
    try simp only [Int.natCast_add, Int.cast_ofNat_Int, Int.natCast_one]
    rw [hcl2]
    try simp only [Int.add_assoc]
  · have hi : i = xs.length := by omega
    subst hi
    rw [List.take_length]
    push_cast
    refine cnd_dec (fun hlt => ?_) (fun hge => ?_)
    · omega
    push_cast

noncomputable def c_laws_heldRingS : ACode := (.seq (.reg false [⟨none, .tk 4 (.k (.i .i64 0)), []⟩] [0, 1]) (.seq (.seq (.reg false [⟨none, .asg 5 (.k (.i .i64 0)), []⟩] [0, 1, 5]) (.block 0 (.loop [0, 1, 5] (.seq (.seq (.reg false [⟨none, .p 6 (.mv (.t 5)), []⟩, ⟨none, .p 7 (.mv (.t 0)), []⟩, ⟨none, .p 8 (.len false (.t 7)), []⟩, ⟨none, .p 9 (.bin .lss (.t 6) (.t 8)), []⟩] [0, 1, 5, 9]) (.cond (.t 9) .skip (.exit 0 [1]))) (.seq (.block 1 (.seq (.seq (.reg false [⟨none, .p 12 (.mv (.t 0)), []⟩, ⟨none, .p 13 (.mv (.t 5)), []⟩, ⟨none, .p 14 (.ia (.t 12) (.t 13) 2), []⟩, ⟨none, .p 15 (.fa (.t 14) 0 0), []⟩, ⟨none, .p 16 (.ld (.t 15) 0 1 false), []⟩, ⟨none, .p 17 (.mv (.t 1)), []⟩, ⟨none, .p 18 (.bin .neq (.t 16) (.t 17)), []⟩] [0, 1, 5, 18]) (.cond (.t 18) (.seq (.reg false [⟨none, .tk 4 (.k (.i .i64 (-1))), []⟩] [4]) .ret) .skip)) (.seq (.reg false [⟨none, .p 19 (.mv (.t 1)), []⟩, ⟨none, .p 20 (.bin .add (.t 19) (.k (.i .i64 1))), []⟩, ⟨none, .asg 1 (.t 20), []⟩] [0, 1, 5]) (.seq (.reg false [⟨none, .p 21 (.mv (.t 0)), []⟩, ⟨none, .p 22 (.mv (.t 5)), []⟩, ⟨none, .p 23 (.ia (.t 21) (.t 22) 2), []⟩, ⟨none, .p 24 (.fa (.t 23) 0 1), []⟩, ⟨none, .p 25 (.ld (.t 24) 0 1 false), []⟩, ⟨none, .p 26 (.mv (.t 1)), []⟩, ⟨none, .call (some 27) 31 [.rd (.t 25), .rd (.t 26)], []⟩, ⟨none, .asg 1 (.t 27), []⟩] [0, 1, 5]) (.seq (.reg false [⟨none, .p 28 (.mv (.t 1)), []⟩, ⟨none, .p 29 (.bin .lss (.t 28) (.k (.i .i64 0))), []⟩] [0, 1, 5, 29]) (.cond (.t 29) (.seq (.reg false [⟨none, .tk 4 (.k (.i .i64 (-1))), []⟩] [4]) .ret) .skip)))))) (.reg false [⟨none, .p 10 (.mv (.t 5)), []⟩, ⟨none, .p 11 (.bin .add (.t 10) (.k (.i .i64 1))), []⟩, ⟨none, .asg 5 (.t 11), []⟩] [0, 1, 5])))))) (.seq (.reg false [⟨none, .p 30 (.mv (.t 1)), []⟩, ⟨none, .tk 4 (.t 30), []⟩] [4]) .ret)))
theorem code_laws_heldRingS : ∃ c, Tryd.f53.body = some c ∧ cfit PP 31 c c_laws_heldRingS = true := by
  refine ⟨_, (rfl : Tryd.f53.body = some _), ?_⟩
  kernel_rfl
theorem t_heldRingS {G : Glob} (xs : List XRing) (k : Nat) (hk : k + cntL XRing.ct xs ≤ 1073741824) : FnD PP G 53 [.val false [.vw none [] (.sl .ow 2 ((mkL XRing.mrk XRing.ct k xs).map XRing.row))], .val false [.ow (.lit (.int .i64 k))]] [] []
    [.v false [.ow (.lit (.int .i64 (k + cntL XRing.ct xs : Nat)))]] [] [] := by
  refine fn_bd fun hbd => ?_
  have hx : (mkL XRing.mrk XRing.ct k xs).length ≤ 281474976710656 := hbd _ (by simp [hdsA, lenT, Cl.tree])
  rw [mkL_len] at hx
  clear hbd
  obtain ⟨cc, hb, hcf⟩ := code_laws_heldRingS
  refine fn_ok (fn := Tryd.f53) (specs := [.t 4]) (by kernel_rfl) hb (by show (31:Nat) ≤ 10000; omega) hcf (by kernel_rfl) (by show (2:Nat) ≤ 31; omega) (by simp) (by simp) rfl rfl (by simp) rfl ?_
  simp only [c_laws_heldRingS]
  push_cast
  refine cwp_loop (fun i : Nat => ⟨[(0, .val false [.vw none [] (.sl .ow 2 ((mkL XRing.mrk XRing.ct k xs).map XRing.row))]), (1, .val false [.ow (.lit (.int .i64 (k + cntL XRing.ct (xs.take i) : Nat)))]), (5, .val false [.ow (.lit (.int .i64 i))])], []⟩)
    (fun i => i ≤ xs.length) (fun i => xs.length - i) 0 rfl (by simp [cntL]; rfl) (by omega) ?_
  intro i hle
  have hlen : (mkL XRing.mrk XRing.ct k xs).length = xs.length := mkL_len _ _ _ _
  by_cases hi : i < xs.length
  · have hi2 : i < (mkL XRing.mrk XRing.ct k xs).length := by omega
    have hget : (mkL XRing.mrk XRing.ct k xs)[i] = XRing.mrk (k + cntL XRing.ct (xs.take i)) xs[i] := mkL_get _ _ _ _ _ hi _
    have hcl : k + cntL XRing.ct (xs.take (i + 1)) = (k + cntL XRing.ct (xs.take i)) + XRing.ct xs[i] := cnt_step XRing.ct xs k i hi
    have hKb : (k + cntL XRing.ct (xs.take i)) + XRing.ct xs[i] ≤ 1073741824 := Nat.le_trans (cnt_le XRing.ct xs k i hi) hk
    generalize k + cntL XRing.ct (xs.take i) = K at hcl hKb hget ⊢
    try simp only [XRing.ct] at hKb
    push_cast [getD_map hi2, hget, XRing.row, XRing.mrk]
    refine cnd_dec (fun hlt => ?_) (fun hge => by omega)
    push_cast [getD_map hi2, hget, XRing.row, XRing.mrk]
    try simp (disch := omega) only [wrap64]
    repeat (first | refine And.intro (by omega) ?_ | refine And.intro ⟨by omega, by omega⟩ ?_ | refine And.intro ⟨by omega, by omega, by omega⟩ ?_)
    try simp only [Int.natCast_add, Int.cast_ofNat_Int, Int.natCast_one]
    try refine cnd_dec (fun h => absurd rfl h) (fun _ => ?_)
    try push_cast [getD_map hi2, hget, XRing.row, XRing.mrk]
    try simp (disch := omega) only [wrap64]
    repeat (first | refine And.intro (by omega) ?_ | refine And.intro ⟨by omega, by omega⟩ ?_ | refine And.intro ⟨by omega, by omega, by omega⟩ ?_)
    have hc := t_heldIntS (G := G) xs[i].Members (K + 1) (by omega)
    try simp only [Int.natCast_add, Int.cast_ofNat_Int, Int.natCast_one] at hc
    refine call_ok hc ?_
    clear hc
    push_cast [getD_map hi2, hget, XRing.row, XRing.mrk]
    refine cnd_dec (fun h => by omega) (fun _ => ?_)
    push_cast [getD_map hi2, hget, XRing.row, XRing.mrk]
    try simp (disch := omega) only [wrap64]
    refine ⟨i + 1, ?_, by omega, by omega⟩
    have hcl2 := congrArg (fun x : Nat => (x : Int)) hcl
    try simp only [XRing.ct, Int.natCast_add, Int.cast_ofNat_Int, Int.natCast_one] at hcl2
    try simp only [Int.natCast_add, Int.cast_ofNat_Int, Int.natCast_one]
    rw [hcl2]
    try simp only [Int.add_assoc]
  · have hi : i = xs.length := by omega
    subst hi
    rw [List.take_length]
    push_cast
    refine cnd_dec (fun hlt => ?_) (fun hge => ?_)
    · omega
    push_cast

noncomputable def c_laws_heldItemS : ACode := (.seq (.reg false [⟨none, .tk 4 (.k (.i .i64 0)), []⟩] [0, 1]) (.seq (.seq (.reg false [⟨none, .asg 5 (.k (.i .i64 0)), []⟩] [0, 1, 5]) (.block 0 (.loop [0, 1, 5] (.seq (.seq (.reg false [⟨none, .p 6 (.mv (.t 5)), []⟩, ⟨none, .p 7 (.mv (.t 0)), []⟩, ⟨none, .p 8 (.len false (.t 7)), []⟩, ⟨none, .p 9 (.bin .lss (.t 6) (.t 8)), []⟩] [0, 1, 5, 9]) (.cond (.t 9) .skip (.exit 0 [1]))) (.seq (.block 1 (.seq (.seq (.reg false [⟨none, .p 12 (.mv (.t 0)), []⟩, ⟨none, .p 13 (.mv (.t 5)), []⟩, ⟨none, .p 14 (.ia (.t 12) (.t 13) 4), []⟩, ⟨none, .p 15 (.fa (.t 14) 0 0), []⟩, ⟨none, .p 16 (.ld (.t 15) 0 1 false), []⟩, ⟨none, .p 17 (.mv (.t 1)), []⟩, ⟨none, .p 18 (.bin .neq (.t 16) (.t 17)), []⟩] [0, 1, 5, 18]) (.cond (.t 18) (.seq (.reg false [⟨none, .tk 4 (.k (.i .i64 (-1))), []⟩] [4]) .ret) .skip)) (.seq (.reg false [⟨none, .p 19 (.mv (.t 1)), []⟩, ⟨none, .p 20 (.bin .add (.t 19) (.k (.i .i64 1))), []⟩, ⟨none, .asg 1 (.t 20), []⟩] [0, 1, 5]) (.seq (.seq (.reg false [⟨none, .p 21 (.mv (.t 0)), []⟩, ⟨none, .p 22 (.mv (.t 5)), []⟩, ⟨none, .p 23 (.ia (.t 21) (.t 22) 4), []⟩, ⟨none, .p 24 (.fa (.t 23) 0 1), []⟩, ⟨none, .p 25 (.ld (.t 24) 0 1 false), []⟩, ⟨none, .p 26 (.mv (.t 1)), []⟩, ⟨none, .p 27 (.bin .neq (.t 25) (.t 26)), []⟩] [0, 1, 5, 27]) (.cond (.t 27) (.seq (.reg false [⟨none, .tk 4 (.k (.i .i64 (-1))), []⟩] [4]) .ret) .skip)) (.seq (.reg false [⟨none, .p 28 (.mv (.t 1)), []⟩, ⟨none, .p 29 (.bin .add (.t 28) (.k (.i .i64 1))), []⟩, ⟨none, .asg 1 (.t 29), []⟩] [0, 1, 5]) (.seq (.seq (.reg false [⟨none, .p 30 (.mv (.t 0)), []⟩, ⟨none, .p 31 (.mv (.t 5)), []⟩, ⟨none, .p 32 (.ia (.t 30) (.t 31) 4), []⟩, ⟨none, .p 33 (.fa (.t 32) 0 2), []⟩, ⟨none, .p 34 (.ld (.t 33) 0 1 false), []⟩, ⟨none, .p 35 (.mv (.t 1)), []⟩, ⟨none, .p 36 (.bin .neq (.t 34) (.t 35)), []⟩] [0, 1, 5, 36]) (.cond (.t 36) (.seq (.reg false [⟨none, .tk 4 (.k (.i .i64 (-1))), []⟩] [4]) .ret) .skip)) (.seq (.reg false [⟨none, .p 37 (.mv (.t 1)), []⟩, ⟨none, .p 38 (.bin .add (.t 37) (.k (.i .i64 1))), []⟩, ⟨none, .asg 1 (.t 38), []⟩] [0, 1, 5]) (.seq (.seq (.reg true [⟨none, .p 39 (.mv (.t 0)), []⟩, ⟨none, .p 40 (.mv (.t 5)), []⟩, ⟨none, .p 41 (.ia (.t 39) (.t 40) 4), [0, 1]⟩, ⟨none, .p 42 (.fa (.t 41) 0 3), [2]⟩, ⟨none, .p 43 (.ld (.t 42) 0 1 false), [3]⟩, ⟨none, .p 44 (.mv (.t 1)), []⟩, ⟨none, .call (some 45) 50 [.rd (.t 44)], [5]⟩, ⟨none, .p 46 (.bin .neq (.t 43) (.t 45)), [4, 6]⟩] [0, 1, 5, 46]) (.cond (.t 46) (.seq (.reg false [⟨none, .tk 4 (.k (.i .i64 (-1))), []⟩] [4]) .ret) .skip)) (.reg false [⟨none, .p 47 (.mv (.t 1)), []⟩, ⟨none, .p 48 (.bin .add (.t 47) (.k (.i .i64 1))), []⟩, ⟨none, .asg 1 (.t 48), []⟩] [0, 1, 5]))))))))) (.reg false [⟨none, .p 10 (.mv (.t 5)), []⟩, ⟨none, .p 11 (.bin .add (.t 10) (.k (.i .i64 1))), []⟩, ⟨none, .asg 5 (.t 11), []⟩] [0, 1, 5])))))) (.seq (.reg false [⟨none, .p 49 (.mv (.t 1)), []⟩, ⟨none, .tk 4 (.t 49), []⟩] [4]) .ret)))
theorem code_laws_heldItemS : ∃ c, Tryd.f76.body = some c ∧ cfit PP 50 c c_laws_heldItemS = true := by
  refine ⟨_, (rfl : Tryd.f76.body = some _), ?_⟩
  kernel_rfl
theorem t_heldItemS {G : Glob} (xs : List XItem) (k : Nat) (hk : k + cntL XItem.ct xs ≤ 1073741824) : FnD PP G 76 [.val false [.vw none [] (.sl .ow 4 ((mkL XItem.mrk XItem.ct k xs).map XItem.row))], .val false [.ow (.lit (.int .i64 k))]] [] []
    [.v false [.ow (.lit (.int .i64 (k + cntL XItem.ct xs : Nat)))]] [] [] := by
  refine fn_bd fun hbd => ?_
  have hx : (mkL XItem.mrk XItem.ct k xs).length ≤ 281474976710656 := hbd _ (by simp [hdsA, lenT, Cl.tree])
  rw [mkL_len] at hx
  clear hbd
  obtain ⟨cc, hb, hcf⟩ := code_laws_heldItemS
  refine fn_ok (fn := Tryd.f76) (specs := [.t 4]) (by kernel_rfl) hb (by show (50:Nat) ≤ 10000; omega) hcf (by kernel_rfl) (by show (2:Nat) ≤ 50; omega) (by simp) (by simp) rfl rfl (by simp) rfl ?_
  simp only [c_laws_heldItemS]
  push_cast
  refine cwp_loop (fun i : Nat => ⟨[(0, .val false [.vw none [] (.sl .ow 4 ((mkL XItem.mrk XItem.ct k xs).map XItem.row))]), (1, .val false [.ow (.lit (.int .i64 (k + cntL XItem.ct (xs.take i) : Nat)))]), (5, .val false [.ow (.lit (.int .i64 i))])], []⟩)
    (fun i => i ≤ xs.length) (fun i => xs.length - i) 0 rfl (by simp [cntL]; rfl) (by omega) ?_
  intro i hle
  have hlen : (mkL XItem.mrk XItem.ct k xs).length = xs.length := mkL_len _ _ _ _
  by_cases hi : i < xs.length
  · have hi2 : i < (mkL XItem.mrk XItem.ct k xs).length := by omega
    have hget : (mkL XItem.mrk XItem.ct k xs)[i] = XItem.mrk (k + cntL XItem.ct (xs.take i)) xs[i] := mkL_get _ _ _ _ _ hi _
    have hcl : k + cntL XItem.ct (xs.take (i + 1)) = (k + cntL XItem.ct (xs.take i)) + XItem.ct xs[i] := cnt_step XItem.ct xs k i hi
    have hKb : (k + cntL XItem.ct (xs.take i)) + XItem.ct xs[i] ≤ 1073741824 := Nat.le_trans (cnt_le XItem.ct xs k i hi) hk
    generalize k + cntL XItem.ct (xs.take i) = K at hcl hKb hget ⊢
    try simp only [XItem.ct] at hKb
    push_cast [getD_map hi2, hget, XItem.row, XItem.mrk]
    refine cnd_dec (fun hlt => ?_) (fun hge => by omega)
    push_cast [getD_map hi2, hget, XItem.row, XItem.mrk]
    try simp (disch := omega) only [wrap64]
    repeat (first | refine And.intro (by omega) ?_ | refine And.intro ⟨by omega, by omega⟩ ?_ | refine And.intro ⟨by omega, by omega, by omega⟩ ?_)
    try simp only [Int.natCast_add, Int.cast_ofNat_Int, Int.natCast_one]
    try refine cnd_dec (fun h => absurd rfl h) (fun _ => ?_)
    try push_cast [getD_map hi2, hget, XItem.row, XItem.mrk]
    try simp (disch := omega) only [wrap64]
    repeat (first | refine And.intro (by omega) ?_ | refine And.intro ⟨by omega, by omega⟩ ?_ | refine And.intro ⟨by omega, by omega, by omega⟩ ?_)
    try simp only [Int.natCast_add, Int.cast_ofNat_Int, Int.natCast_one]
    try refine cnd_dec (fun h => absurd rfl h) (fun _ => ?_)
    try push_cast [getD_map hi2, hget, XItem.row, XItem.mrk]
    try simp (disch := omega) only [wrap64]
    repeat (first | refine And.intro (by omega) ?_ | refine And.intro ⟨by omega, by omega⟩ ?_ | refine And.intro ⟨by omega, by omega, by omega⟩ ?_)
    try simp only [Int.natCast_add, Int.cast_ofNat_Int, Int.natCast_one]
    try refine cnd_dec (fun h => absurd rfl h) (fun _ => ?_)
    try push_cast [getD_map hi2, hget, XItem.row, XItem.mrk]
    try simp (disch := omega) only [wrap64]
    refine draw_any ?_
    push_cast [getD_map hi2, hget, XItem.row, XItem.mrk]
    try simp (disch := omega) only [wrap64]
    repeat (first | refine And.intro (by omega) ?_ | refine And.intro ⟨by omega, by omega⟩ ?_ | refine And.intro ⟨by omega, by omega, by omega⟩ ?_)
    have hc := t_markText (G := G) (K + 1 + 1 + 1) (by omega)
    try simp only [Int.natCast_add, Int.cast_ofNat_Int, Int.natCast_one] at hc
    refine call_ok hc ?_
    clear hc
    push_cast [getD_map hi2, hget, XItem.row, XItem.mrk]
    refine ⟨by kernel_rfl, ?_⟩
    try simp (disch := omega) only [wrap64]
    refine ⟨i + 1, ?_, by omega, by omega⟩
    have hcl2 := congrArg (fun x : Nat => (x : Int)) hcl
    try simp only [XItem.ct, Int.natCast_add, Int.cast_ofNat_Int, Int.natCast_one] at hcl2
    try simp only [Int.natCast_add, Int.cast_ofNat_Int, Int.natCast_one]
    rw [hcl2]
    try simp only [Int.add_assoc]
  · have hi : i = xs.length := by omega
    subst hi
    rw [List.take_length]
    push_cast
    refine cnd_dec (fun hlt => ?_) (fun hge => ?_)
    · omega
    push_cast

noncomputable def c_laws_heldStringS : ACode := (.seq (.reg false [⟨none, .tk 4 (.k (.i .i64 0)), []⟩] [0, 1]) (.seq (.seq (.reg false [⟨none, .asg 5 (.k (.i .i64 0)), []⟩] [0, 1, 5]) (.block 0 (.loop [0, 1, 5] (.seq (.seq (.reg false [⟨none, .p 6 (.mv (.t 5)), []⟩, ⟨none, .p 7 (.mv (.t 0)), []⟩, ⟨none, .p 8 (.len false (.t 7)), []⟩, ⟨none, .p 9 (.bin .lss (.t 6) (.t 8)), []⟩] [0, 1, 5, 9]) (.cond (.t 9) .skip (.exit 0 [1]))) (.seq (.block 1 (.seq (.seq (.reg true [⟨none, .p 12 (.mv (.t 0)), []⟩, ⟨none, .p 13 (.mv (.t 5)), []⟩, ⟨none, .p 14 (.ia (.t 12) (.t 13) 1), [0, 1]⟩, ⟨none, .p 15 (.ld (.t 14) 0 1 false), [2]⟩, ⟨none, .p 16 (.mv (.t 1)), []⟩, ⟨none, .call (some 17) 50 [.rd (.t 16)], [4]⟩, ⟨none, .p 18 (.bin .neq (.t 15) (.t 17)), [3, 5]⟩] [0, 1, 5, 18]) (.cond (.t 18) (.seq (.reg false [⟨none, .tk 4 (.k (.i .i64 (-1))), []⟩] [4]) .ret) .skip)) (.reg false [⟨none, .p 19 (.mv (.t 1)), []⟩, ⟨none, .p 20 (.bin .add (.t 19) (.k (.i .i64 1))), []⟩, ⟨none, .asg 1 (.t 20), []⟩] [0, 1, 5]))) (.reg false [⟨none, .p 10 (.mv (.t 5)), []⟩, ⟨none, .p 11 (.bin .add (.t 10) (.k (.i .i64 1))), []⟩, ⟨none, .asg 5 (.t 11), []⟩] [0, 1, 5])))))) (.seq (.reg false [⟨none, .p 21 (.mv (.t 1)), []⟩, ⟨none, .tk 4 (.t 21), []⟩] [4]) .ret)))
theorem code_laws_heldStringS : ∃ c, Tryd.f57.body = some c ∧ cfit PP 22 c c_laws_heldStringS = true := by
  refine ⟨_, (rfl : Tryd.f57.body = some _), ?_⟩
  kernel_rfl
theorem t_heldStringS {G : Glob} (xs : List ByteArray) (k : Nat) (hk : k + cntL (fun _ => 1) xs ≤ 1073741824) : FnD PP G 57 [.val false [.vw none [] (.sl .ow 1 ((mkL (fun n _ => markB n) (fun _ => 1) k xs).map strR))], .val false [.ow (.lit (.int .i64 k))]] [] []
    [.v false [.ow (.lit (.int .i64 (k + cntL (fun _ => 1) xs : Nat)))]] [] [] := by
  refine fn_bd fun hbd => ?_
  have hx : (mkL (fun n _ => markB n) (fun _ => 1) k xs).length ≤ 281474976710656 := hbd _ (by simp [hdsA, lenT, Cl.tree])
  rw [mkL_len] at hx
  clear hbd
  obtain ⟨cc, hb, hcf⟩ := code_laws_heldStringS
  refine fn_ok (fn := Tryd.f57) (specs := [.t 4]) (by kernel_rfl) hb (by show (22:Nat) ≤ 10000; omega) hcf (by kernel_rfl) (by show (2:Nat) ≤ 22; omega) (by simp) (by simp) rfl rfl (by simp) rfl ?_
  simp only [c_laws_heldStringS]
  push_cast
  refine cwp_loop (fun i : Nat => ⟨[(0, .val false [.vw none [] (.sl .ow 1 ((mkL (fun n _ => markB n) (fun _ => 1) k xs).map strR))]), (1, .val false [.ow (.lit (.int .i64 (k + cntL (fun _ => 1) (xs.take i) : Nat)))]), (5, .val false [.ow (.lit (.int .i64 i))])], []⟩)
    (fun i => i ≤ xs.length) (fun i => xs.length - i) 0 rfl (by simp [cntL]; rfl) (by omega) ?_
  intro i hle
  have hlen : (mkL (fun n _ => markB n) (fun _ => 1) k xs).length = xs.length := mkL_len _ _ _ _
  by_cases hi : i < xs.length
  · have hi2 : i < (mkL (fun n _ => markB n) (fun _ => 1) k xs).length := by omega
    have hget : (mkL (fun n _ => markB n) (fun _ => 1) k xs)[i] = (fun n _ => markB n) (k + cntL (fun _ => 1) (xs.take i)) xs[i] := mkL_get _ _ _ _ _ hi _
    have hcl : k + cntL (fun _ => 1) (xs.take (i + 1)) = (k + cntL (fun _ => 1) (xs.take i)) + (fun _ => 1) xs[i] := cnt_step (fun _ => 1) xs k i hi
    have hKb : (k + cntL (fun _ => 1) (xs.take i)) + (fun _ => 1) xs[i] ≤ 1073741824 := Nat.le_trans (cnt_le (fun _ => 1) xs k i hi) hk
    generalize k + cntL (fun _ => 1) (xs.take i) = K at hcl hKb hget ⊢
    try simp only [Nat.add_zero] at hKb
    push_cast [getD_map hi2, hget, strR]
    refine cnd_dec (fun hlt => ?_) (fun hge => by omega)
    push_cast [getD_map hi2, hget, strR]
    try simp (disch := omega) only [wrap64]
    refine draw_any ?_
    push_cast [getD_map hi2, hget, strR]
    try simp (disch := omega) only [wrap64]
    repeat (first | refine And.intro (by omega) ?_ | refine And.intro ⟨by omega, by omega⟩ ?_ | refine And.intro ⟨by omega, by omega, by omega⟩ ?_)
    have hc := t_markText (G := G) (K) (by omega)
    try simp only [Int.natCast_add, Int.cast_ofNat_Int, Int.natCast_one] at hc
    refine call_ok hc ?_
    clear hc
    push_cast [getD_map hi2, hget, strR]
    refine ⟨by kernel_rfl, ?_⟩
    try simp (disch := omega) only [wrap64]
    refine ⟨i + 1, ?_, by omega, by omega⟩
    have hcl2 := congrArg (fun x : Nat => (x : Int)) hcl
    try simp only [Nat.add_zero, Int.natCast_add, Int.cast_ofNat_Int, Int.natCast_one] at hcl2
    try simp only [Int.natCast_add, Int.cast_ofNat_Int, Int.natCast_one]
    rw [hcl2]
    try simp only [Int.add_assoc]
  · have hi : i = xs.length := by omega
    subst hi
    rw [List.take_length]
    push_cast
    refine cnd_dec (fun hlt => ?_) (fun hge => ?_)
    · omega
    push_cast

noncomputable def c_laws_heldBundleS : ACode := (.seq (.reg false [⟨none, .tk 4 (.k (.i .i64 0)), []⟩] [0, 1]) (.seq (.seq (.reg false [⟨none, .asg 5 (.k (.i .i64 0)), []⟩] [0, 1, 5]) (.block 0 (.loop [0, 1, 5] (.seq (.seq (.reg false [⟨none, .p 6 (.mv (.t 5)), []⟩, ⟨none, .p 7 (.mv (.t 0)), []⟩, ⟨none, .p 8 (.len false (.t 7)), []⟩, ⟨none, .p 9 (.bin .lss (.t 6) (.t 8)), []⟩] [0, 1, 5, 9]) (.cond (.t 9) .skip (.exit 0 [1]))) (.seq (.block 1 (.seq (.seq (.reg false [⟨none, .p 12 (.mv (.t 0)), []⟩, ⟨none, .p 13 (.mv (.t 5)), []⟩, ⟨none, .p 14 (.ia (.t 12) (.t 13) 4), []⟩, ⟨none, .p 15 (.fa (.t 14) 0 0), []⟩, ⟨none, .p 16 (.ld (.t 15) 0 1 false), []⟩, ⟨none, .p 17 (.mv (.t 1)), []⟩, ⟨none, .p 18 (.bin .neq (.t 16) (.t 17)), []⟩] [0, 1, 5, 18]) (.cond (.t 18) (.seq (.reg false [⟨none, .tk 4 (.k (.i .i64 (-1))), []⟩] [4]) .ret) .skip)) (.seq (.reg false [⟨none, .p 19 (.mv (.t 1)), []⟩, ⟨none, .p 20 (.bin .add (.t 19) (.k (.i .i64 1))), []⟩, ⟨none, .asg 1 (.t 20), []⟩] [0, 1, 5]) (.seq (.seq (.reg false [⟨none, .p 21 (.mv (.t 0)), []⟩, ⟨none, .p 22 (.mv (.t 5)), []⟩, ⟨none, .p 23 (.ia (.t 21) (.t 22) 4), []⟩, ⟨none, .p 24 (.fa (.t 23) 0 1), []⟩, ⟨none, .p 25 (.ld (.t 24) 0 1 false), []⟩, ⟨none, .p 26 (.mv (.t 1)), []⟩, ⟨none, .p 27 (.bin .neq (.t 25) (.t 26)), []⟩] [0, 1, 5, 27]) (.cond (.t 27) (.seq (.reg false [⟨none, .tk 4 (.k (.i .i64 (-1))), []⟩] [4]) .ret) .skip)) (.seq (.reg false [⟨none, .p 28 (.mv (.t 1)), []⟩, ⟨none, .p 29 (.bin .add (.t 28) (.k (.i .i64 1))), []⟩, ⟨none, .asg 1 (.t 29), []⟩] [0, 1, 5]) (.seq (.seq (.reg false [⟨none, .p 30 (.mv (.t 0)), []⟩, ⟨none, .p 31 (.mv (.t 5)), []⟩, ⟨none, .p 32 (.ia (.t 30) (.t 31) 4), []⟩, ⟨none, .p 33 (.fa (.t 32) 0 2), []⟩, ⟨none, .p 34 (.ld (.t 33) 0 1 false), []⟩, ⟨none, .p 35 (.mv (.t 1)), []⟩, ⟨none, .p 36 (.bin .neq (.t 34) (.t 35)), []⟩] [0, 1, 5, 36]) (.cond (.t 36) (.seq (.reg false [⟨none, .tk 4 (.k (.i .i64 (-1))), []⟩] [4]) .ret) .skip)) (.seq (.reg false [⟨none, .p 37 (.mv (.t 1)), []⟩, ⟨none, .p 38 (.bin .add (.t 37) (.k (.i .i64 1))), []⟩, ⟨none, .asg 1 (.t 38), []⟩] [0, 1, 5]) (.seq (.reg false [⟨none, .p 39 (.mv (.t 0)), []⟩, ⟨none, .p 40 (.mv (.t 5)), []⟩, ⟨none, .p 41 (.ia (.t 39) (.t 40) 4), []⟩, ⟨none, .p 42 (.fa (.t 41) 0 3), []⟩, ⟨none, .p 43 (.ld (.t 42) 0 1 false), []⟩, ⟨none, .p 44 (.mv (.t 1)), []⟩, ⟨none, .call (some 45) 76 [.rd (.t 43), .rd (.t 44)], []⟩, ⟨none, .asg 1 (.t 45), []⟩] [0, 1, 5]) (.seq (.reg false [⟨none, .p 46 (.mv (.t 1)), []⟩, ⟨none, .p 47 (.bin .lss (.t 46) (.k (.i .i64 0))), []⟩] [0, 1, 5, 47]) (.cond (.t 47) (.seq (.reg false [⟨none, .tk 4 (.k (.i .i64 (-1))), []⟩] [4]) .ret) .skip)))))))))) (.reg false [⟨none, .p 10 (.mv (.t 5)), []⟩, ⟨none, .p 11 (.bin .add (.t 10) (.k (.i .i64 1))), []⟩, ⟨none, .asg 5 (.t 11), []⟩] [0, 1, 5])))))) (.seq (.reg false [⟨none, .p 48 (.mv (.t 1)), []⟩, ⟨none, .tk 4 (.t 48), []⟩] [4]) .ret)))
theorem code_laws_heldBundleS : ∃ c, Tryd.f77.body = some c ∧ cfit PP 49 c c_laws_heldBundleS = true := by
  refine ⟨_, (rfl : Tryd.f77.body = some _), ?_⟩
  kernel_rfl
theorem t_heldBundleS {G : Glob} (xs : List XBundle) (k : Nat) (hk : k + cntL XBundle.ct xs ≤ 1073741824) : FnD PP G 77 [.val false [.vw none [] (.sl .ow 4 ((mkL XBundle.mrk XBundle.ct k xs).map XBundle.row))], .val false [.ow (.lit (.int .i64 k))]] [] []
    [.v false [.ow (.lit (.int .i64 (k + cntL XBundle.ct xs : Nat)))]] [] [] := by
  refine fn_bd fun hbd => ?_
  have hx : (mkL XBundle.mrk XBundle.ct k xs).length ≤ 281474976710656 := hbd _ (by simp [hdsA, lenT, Cl.tree])
  rw [mkL_len] at hx
  clear hbd
  obtain ⟨cc, hb, hcf⟩ := code_laws_heldBundleS
  refine fn_ok (fn := Tryd.f77) (specs := [.t 4]) (by kernel_rfl) hb (by show (49:Nat) ≤ 10000; omega) hcf (by kernel_rfl) (by show (2:Nat) ≤ 49; omega) (by simp) (by simp) rfl rfl (by simp) rfl ?_
  simp only [c_laws_heldBundleS]
  push_cast
  refine cwp_loop (fun i : Nat => ⟨[(0, .val false [.vw none [] (.sl .ow 4 ((mkL XBundle.mrk XBundle.ct k xs).map XBundle.row))]), (1, .val false [.ow (.lit (.int .i64 (k + cntL XBundle.ct (xs.take i) : Nat)))]), (5, .val false [.ow (.lit (.int .i64 i))])], []⟩)
    (fun i => i ≤ xs.length) (fun i => xs.length - i) 0 rfl (by simp [cntL]; rfl) (by omega) ?_
  intro i hle
  have hlen : (mkL XBundle.mrk XBundle.ct k xs).length = xs.length := mkL_len _ _ _ _
  by_cases hi : i < xs.length
  · have hi2 : i < (mkL XBundle.mrk XBundle.ct k xs).length := by omega
    have hget : (mkL XBundle.mrk XBundle.ct k xs)[i] = XBundle.mrk (k + cntL XBundle.ct (xs.take i)) xs[i] := mkL_get _ _ _ _ _ hi _
    have hcl : k + cntL XBundle.ct (xs.take (i + 1)) = (k + cntL XBundle.ct (xs.take i)) + XBundle.ct xs[i] := cnt_step XBundle.ct xs k i hi
    have hKb : (k + cntL XBundle.ct (xs.take i)) + XBundle.ct xs[i] ≤ 1073741824 := Nat.le_trans (cnt_le XBundle.ct xs k i hi) hk
    generalize k + cntL XBundle.ct (xs.take i) = K at hcl hKb hget ⊢
    try simp only [XBundle.ct] at hKb
    push_cast [getD_map hi2, hget, XBundle.row, XBundle.mrk]
    refine cnd_dec (fun hlt => ?_) (fun hge => by omega)
    push_cast [getD_map hi2, hget, XBundle.row, XBundle.mrk]
    try simp (disch := omega) only [wrap64]
    repeat (first | refine And.intro (by omega) ?_ | refine And.intro ⟨by omega, by omega⟩ ?_ | refine And.intro ⟨by omega, by omega, by omega⟩ ?_)
    try simp only [Int.natCast_add, Int.cast_ofNat_Int, Int.natCast_one]
    try refine cnd_dec (fun h => absurd rfl h) (fun _ => ?_)
    try push_cast [getD_map hi2, hget, XBundle.row, XBundle.mrk]
    try simp (disch := omega) only [wrap64]
    repeat (first | refine And.intro (by omega) ?_ | refine And.intro ⟨by omega, by omega⟩ ?_ | refine And.intro ⟨by omega, by omega, by omega⟩ ?_)
    try simp only [Int.natCast_add, Int.cast_ofNat_Int, Int.natCast_one]
    try refine cnd_dec (fun h => absurd rfl h) (fun _ => ?_)
    try push_cast [getD_map hi2, hget, XBundle.row, XBundle.mrk]
    try simp (disch := omega) only [wrap64]
    repeat (first | refine And.intro (by omega) ?_ | refine And.intro ⟨by omega, by omega⟩ ?_ | refine And.intro ⟨by omega, by omega, by omega⟩ ?_)
    try simp only [Int.natCast_add, Int.cast_ofNat_Int, Int.natCast_one]
    try refine cnd_dec (fun h => absurd rfl h) (fun _ => ?_)
    try push_cast [getD_map hi2, hget, XBundle.row, XBundle.mrk]
    try simp (disch := omega) only [wrap64]
    repeat (first | refine And.intro (by omega) ?_ | refine And.intro ⟨by omega, by omega⟩ ?_ | refine And.intro ⟨by omega, by omega, by omega⟩ ?_)
    have hc := t_heldItemS (G := G) xs[i].Items (K + 1 + 1 + 1) (by omega)
    try simp only [Int.natCast_add, Int.cast_ofNat_Int, Int.natCast_one] at hc
    refine call_ok hc ?_
    clear hc
    push_cast [getD_map hi2, hget, XBundle.row, XBundle.mrk]
    refine cnd_dec (fun h => by omega) (fun _ => ?_)
    push_cast [getD_map hi2, hget, XBundle.row, XBundle.mrk]
    try simp (disch := omega) only [wrap64]
    refine ⟨i + 1, ?_, by omega, by omega⟩
    have hcl2 := congrArg (fun x : Nat => (x : Int)) hcl
    try simp only [XBundle.ct, Int.natCast_add, Int.cast_ofNat_Int, Int.natCast_one] at hcl2
    try simp only [Int.natCast_add, Int.cast_ofNat_Int, Int.natCast_one]
    rw [hcl2]
    try simp only [Int.add_assoc]
  · have hi : i = xs.length := by omega
    subst hi
    rw [List.take_length]
    push_cast
    refine cnd_dec (fun hlt => ?_) (fun hge => ?_)
    · omega
    push_cast

noncomputable def c_laws_heldEventS : ACode := (.seq (.reg false [⟨none, .tk 4 (.k (.i .i64 0)), []⟩] [0, 1]) (.seq (.seq (.reg false [⟨none, .asg 5 (.k (.i .i64 0)), []⟩] [0, 1, 5]) (.block 0 (.loop [0, 1, 5] (.seq (.seq (.reg false [⟨none, .p 6 (.mv (.t 5)), []⟩, ⟨none, .p 7 (.mv (.t 0)), []⟩, ⟨none, .p 8 (.len false (.t 7)), []⟩, ⟨none, .p 9 (.bin .lss (.t 6) (.t 8)), []⟩] [0, 1, 5, 9]) (.cond (.t 9) .skip (.exit 0 [1]))) (.seq (.block 1 (.seq (.seq (.reg false [⟨none, .p 12 (.mv (.t 0)), []⟩, ⟨none, .p 13 (.mv (.t 5)), []⟩, ⟨none, .p 14 (.ia (.t 12) (.t 13) 8), []⟩, ⟨none, .p 15 (.fa (.t 14) 0 0), []⟩, ⟨none, .p 16 (.ld (.t 15) 0 1 false), []⟩, ⟨none, .p 17 (.mv (.t 1)), []⟩, ⟨none, .p 18 (.bin .neq (.t 16) (.t 17)), []⟩] [0, 1, 5, 18]) (.cond (.t 18) (.seq (.reg false [⟨none, .tk 4 (.k (.i .i64 (-1))), []⟩] [4]) .ret) .skip)) (.seq (.reg false [⟨none, .p 19 (.mv (.t 1)), []⟩, ⟨none, .p 20 (.bin .add (.t 19) (.k (.i .i64 1))), []⟩, ⟨none, .asg 1 (.t 20), []⟩] [0, 1, 5]) (.seq (.seq (.reg false [⟨none, .p 21 (.mv (.t 0)), []⟩, ⟨none, .p 22 (.mv (.t 5)), []⟩, ⟨none, .p 23 (.ia (.t 21) (.t 22) 8), []⟩, ⟨none, .p 24 (.fa (.t 23) 0 1), []⟩, ⟨none, .p 25 (.fa (.t 24) 0 0), []⟩, ⟨none, .p 26 (.ld (.t 25) 0 1 false), []⟩, ⟨none, .p 27 (.mv (.t 1)), []⟩, ⟨none, .p 28 (.bin .neq (.t 26) (.t 27)), []⟩] [0, 1, 5, 28]) (.cond (.t 28) (.seq (.reg false [⟨none, .tk 4 (.k (.i .i64 (-1))), []⟩] [4]) .ret) .skip)) (.seq (.reg false [⟨none, .p 29 (.mv (.t 1)), []⟩, ⟨none, .p 30 (.bin .add (.t 29) (.k (.i .i64 1))), []⟩, ⟨none, .asg 1 (.t 30), []⟩] [0, 1, 5]) (.seq (.reg false [⟨none, .p 31 (.mv (.t 0)), []⟩, ⟨none, .p 32 (.mv (.t 5)), []⟩, ⟨none, .p 33 (.ia (.t 31) (.t 32) 8), []⟩, ⟨none, .p 34 (.fa (.t 33) 0 1), []⟩, ⟨none, .p 35 (.fa (.t 34) 0 1), []⟩, ⟨none, .p 36 (.ld (.t 35) 0 1 false), []⟩, ⟨none, .p 37 (.mv (.t 1)), []⟩, ⟨none, .call (some 38) 31 [.rd (.t 36), .rd (.t 37)], []⟩, ⟨none, .asg 1 (.t 38), []⟩] [0, 1, 5]) (.seq (.seq (.reg false [⟨none, .p 39 (.mv (.t 1)), []⟩, ⟨none, .p 40 (.bin .lss (.t 39) (.k (.i .i64 0))), []⟩] [0, 1, 5, 40]) (.cond (.t 40) (.seq (.reg false [⟨none, .tk 4 (.k (.i .i64 (-1))), []⟩] [4]) .ret) .skip)) (.seq (.seq (.reg false [⟨none, .p 41 (.mv (.t 0)), []⟩, ⟨none, .p 42 (.mv (.t 5)), []⟩, ⟨none, .p 43 (.ia (.t 41) (.t 42) 8), []⟩, ⟨none, .p 44 (.fa (.t 43) 0 3), []⟩, ⟨none, .p 45 (.fa (.t 44) 0 0), []⟩, ⟨none, .p 46 (.ld (.t 45) 0 1 false), []⟩, ⟨none, .p 47 (.mv (.t 1)), []⟩, ⟨none, .p 48 (.bin .neq (.t 46) (.t 47)), []⟩] [0, 1, 5, 48]) (.cond (.t 48) (.seq (.reg false [⟨none, .tk 4 (.k (.i .i64 (-1))), []⟩] [4]) .ret) .skip)) (.seq (.reg false [⟨none, .p 49 (.mv (.t 1)), []⟩, ⟨none, .p 50 (.bin .add (.t 49) (.k (.i .i64 1))), []⟩, ⟨none, .asg 1 (.t 50), []⟩] [0, 1, 5]) (.seq (.seq (.reg false [⟨none, .p 51 (.mv (.t 0)), []⟩, ⟨none, .p 52 (.mv (.t 5)), []⟩, ⟨none, .p 53 (.ia (.t 51) (.t 52) 8), []⟩, ⟨none, .p 54 (.fa (.t 53) 0 3), []⟩, ⟨none, .p 55 (.fa (.t 54) 0 1), []⟩, ⟨none, .p 56 (.ld (.t 55) 0 1 false), []⟩, ⟨none, .p 57 (.mv (.t 1)), []⟩, ⟨none, .p 58 (.bin .neq (.t 56) (.t 57)), []⟩] [0, 1, 5, 58]) (.cond (.t 58) (.seq (.reg false [⟨none, .tk 4 (.k (.i .i64 (-1))), []⟩] [4]) .ret) .skip)) (.seq (.reg false [⟨none, .p 59 (.mv (.t 1)), []⟩, ⟨none, .p 60 (.bin .add (.t 59) (.k (.i .i64 1))), []⟩, ⟨none, .asg 1 (.t 60), []⟩] [0, 1, 5]) (.seq (.seq (.reg false [⟨none, .p 61 (.mv (.t 0)), []⟩, ⟨none, .p 62 (.mv (.t 5)), []⟩, ⟨none, .p 63 (.ia (.t 61) (.t 62) 8), []⟩, ⟨none, .p 64 (.fa (.t 63) 0 3), []⟩, ⟨none, .p 65 (.fa (.t 64) 0 2), []⟩, ⟨none, .p 66 (.ld (.t 65) 0 1 false), []⟩, ⟨none, .p 67 (.mv (.t 1)), []⟩, ⟨none, .p 68 (.bin .neq (.t 66) (.t 67)), []⟩] [0, 1, 5, 68]) (.cond (.t 68) (.seq (.reg false [⟨none, .tk 4 (.k (.i .i64 (-1))), []⟩] [4]) .ret) .skip)) (.seq (.reg false [⟨none, .p 69 (.mv (.t 1)), []⟩, ⟨none, .p 70 (.bin .add (.t 69) (.k (.i .i64 1))), []⟩, ⟨none, .asg 1 (.t 70), []⟩] [0, 1, 5]) (.seq (.seq (.reg true [⟨none, .p 71 (.mv (.t 0)), []⟩, ⟨none, .p 72 (.mv (.t 5)), []⟩, ⟨none, .p 73 (.ia (.t 71) (.t 72) 8), [0, 1]⟩, ⟨none, .p 74 (.fa (.t 73) 0 3), [2]⟩, ⟨none, .p 75 (.fa (.t 74) 0 3), [3]⟩, ⟨none, .p 76 (.ld (.t 75) 0 1 false), [4]⟩, ⟨none, .p 77 (.mv (.t 1)), []⟩, ⟨none, .call (some 78) 50 [.rd (.t 77)], [6]⟩, ⟨none, .p 79 (.bin .neq (.t 76) (.t 78)), [5, 7]⟩] [0, 1, 5, 79]) (.cond (.t 79) (.seq (.reg false [⟨none, .tk 4 (.k (.i .i64 (-1))), []⟩] [4]) .ret) .skip)) (.seq (.reg false [⟨none, .p 80 (.mv (.t 1)), []⟩, ⟨none, .p 81 (.bin .add (.t 80) (.k (.i .i64 1))), []⟩, ⟨none, .asg 1 (.t 81), []⟩] [0, 1, 5]) (.seq (.reg false [⟨none, .p 82 (.mv (.t 0)), []⟩, ⟨none, .p 83 (.mv (.t 5)), []⟩, ⟨none, .p 84 (.ia (.t 82) (.t 83) 8), []⟩, ⟨none, .p 85 (.fa (.t 84) 0 7), []⟩, ⟨none, .p 86 (.ld (.t 85) 0 1 false), []⟩, ⟨none, .p 87 (.mv (.t 1)), []⟩, ⟨none, .call (some 88) 31 [.rd (.t 86), .rd (.t 87)], []⟩, ⟨none, .asg 1 (.t 88), []⟩] [0, 1, 5]) (.seq (.reg false [⟨none, .p 89 (.mv (.t 1)), []⟩, ⟨none, .p 90 (.bin .lss (.t 89) (.k (.i .i64 0))), []⟩] [0, 1, 5, 90]) (.cond (.t 90) (.seq (.reg false [⟨none, .tk 4 (.k (.i .i64 (-1))), []⟩] [4]) .ret) .skip)))))))))))))))))) (.reg false [⟨none, .p 10 (.mv (.t 5)), []⟩, ⟨none, .p 11 (.bin .add (.t 10) (.k (.i .i64 1))), []⟩, ⟨none, .asg 5 (.t 11), []⟩] [0, 1, 5])))))) (.seq (.reg false [⟨none, .p 91 (.mv (.t 1)), []⟩, ⟨none, .tk 4 (.t 91), []⟩] [4]) .ret)))
theorem code_laws_heldEventS : ∃ c, Tryd.f56.body = some c ∧ cfit PP 92 c c_laws_heldEventS = true := by
  refine ⟨_, (rfl : Tryd.f56.body = some _), ?_⟩
  kernel_rfl
theorem t_heldEventS {G : Glob} (xs : List XEvent) (k : Nat) (hk : k + cntL XEvent.ct xs ≤ 1073741824) : FnD PP G 56 [.val false [.vw none [] (.sl .ow 8 ((mkL XEvent.mrk XEvent.ct k xs).map XEvent.row))], .val false [.ow (.lit (.int .i64 k))]] [] []
    [.v false [.ow (.lit (.int .i64 (k + cntL XEvent.ct xs : Nat)))]] [] [] := by
  refine fn_bd fun hbd => ?_
  have hx : (mkL XEvent.mrk XEvent.ct k xs).length ≤ 281474976710656 := hbd _ (by simp [hdsA, lenT, Cl.tree])
  rw [mkL_len] at hx
  clear hbd
  obtain ⟨cc, hb, hcf⟩ := code_laws_heldEventS
  refine fn_ok (fn := Tryd.f56) (specs := [.t 4]) (by kernel_rfl) hb (by show (92:Nat) ≤ 10000; omega) hcf (by kernel_rfl) (by show (2:Nat) ≤ 92; omega) (by simp) (by simp) rfl rfl (by simp) rfl ?_
  simp only [c_laws_heldEventS]
  push_cast
  refine cwp_loop (fun i : Nat => ⟨[(0, .val false [.vw none [] (.sl .ow 8 ((mkL XEvent.mrk XEvent.ct k xs).map XEvent.row))]), (1, .val false [.ow (.lit (.int .i64 (k + cntL XEvent.ct (xs.take i) : Nat)))]), (5, .val false [.ow (.lit (.int .i64 i))])], []⟩)
    (fun i => i ≤ xs.length) (fun i => xs.length - i) 0 rfl (by simp [cntL]; rfl) (by omega) ?_
  intro i hle
  have hlen : (mkL XEvent.mrk XEvent.ct k xs).length = xs.length := mkL_len _ _ _ _
  by_cases hi : i < xs.length
  · have hi2 : i < (mkL XEvent.mrk XEvent.ct k xs).length := by omega
    have hget : (mkL XEvent.mrk XEvent.ct k xs)[i] = XEvent.mrk (k + cntL XEvent.ct (xs.take i)) xs[i] := mkL_get _ _ _ _ _ hi _
    have hcl : k + cntL XEvent.ct (xs.take (i + 1)) = (k + cntL XEvent.ct (xs.take i)) + XEvent.ct xs[i] := cnt_step XEvent.ct xs k i hi
    have hKb : (k + cntL XEvent.ct (xs.take i)) + XEvent.ct xs[i] ≤ 1073741824 := Nat.le_trans (cnt_le XEvent.ct xs k i hi) hk
    generalize k + cntL XEvent.ct (xs.take i) = K at hcl hKb hget ⊢
    try simp only [XEvent.ct] at hKb
    push_cast [getD_map hi2, hget, XEvent.row, XEvent.mrk]
    refine cnd_dec (fun hlt => ?_) (fun hge => by omega)
    push_cast [getD_map hi2, hget, XEvent.row, XEvent.mrk]
    try simp (disch := omega) only [wrap64]
    repeat (first | refine And.intro (by omega) ?_ | refine And.intro ⟨by omega, by omega⟩ ?_ | refine And.intro ⟨by omega, by omega, by omega⟩ ?_)
    try simp only [Int.natCast_add, Int.cast_ofNat_Int, Int.natCast_one]
    try refine cnd_dec (fun h => absurd rfl h) (fun _ => ?_)
    try push_cast [getD_map hi2, hget, XEvent.row, XEvent.mrk]
    try simp (disch := omega) only [wrap64]
    repeat (first | refine And.intro (by omega) ?_ | refine And.intro ⟨by omega, by omega⟩ ?_ | refine And.intro ⟨by omega, by omega, by omega⟩ ?_)
    try simp only [Int.natCast_add, Int.cast_ofNat_Int, Int.natCast_one]
    try refine cnd_dec (fun h => absurd rfl h) (fun _ => ?_)
    try push_cast [getD_map hi2, hget, XEvent.row, XEvent.mrk]
    try simp (disch := omega) only [wrap64]
    repeat (first | refine And.intro (by omega) ?_ | refine And.intro ⟨by omega, by omega⟩ ?_ | refine And.intro ⟨by omega, by omega, by omega⟩ ?_)
    have hc := t_heldIntS (G := G) xs[i].Ring.Members (K + 1 + 1) (by omega)
    try simp only [Int.natCast_add, Int.cast_ofNat_Int, Int.natCast_one] at hc
    refine call_ok hc ?_
    clear hc
    push_cast [getD_map hi2, hget, XEvent.row, XEvent.mrk]
    refine cnd_dec (fun h => by omega) (fun _ => ?_)
    push_cast [getD_map hi2, hget, XEvent.row, XEvent.mrk]
    try simp (disch := omega) only [wrap64]
    repeat (first | refine And.intro (by omega) ?_ | refine And.intro ⟨by omega, by omega⟩ ?_ | refine And.intro ⟨by omega, by omega, by omega⟩ ?_)
    try simp only [Int.natCast_add, Int.cast_ofNat_Int, Int.natCast_one]
    try refine cnd_dec (fun h => absurd rfl h) (fun _ => ?_)
    try push_cast [getD_map hi2, hget, XEvent.row, XEvent.mrk]
    try simp (disch := omega) only [wrap64]
    repeat (first | refine And.intro (by omega) ?_ | refine And.intro ⟨by omega, by omega⟩ ?_ | refine And.intro ⟨by omega, by omega, by omega⟩ ?_)
    try simp only [Int.natCast_add, Int.cast_ofNat_Int, Int.natCast_one]
    try refine cnd_dec (fun h => absurd rfl h) (fun _ => ?_)
    try push_cast [getD_map hi2, hget, XEvent.row, XEvent.mrk]
    try simp (disch := omega) only [wrap64]
    repeat (first | refine And.intro (by omega) ?_ | refine And.intro ⟨by omega, by omega⟩ ?_ | refine And.intro ⟨by omega, by omega, by omega⟩ ?_)
    try simp only [Int.natCast_add, Int.cast_ofNat_Int, Int.natCast_one]
    try refine cnd_dec (fun h => absurd rfl h) (fun _ => ?_)
    try push_cast [getD_map hi2, hget, XEvent.row, XEvent.mrk]
    try simp (disch := omega) only [wrap64]
    refine draw_any ?_
    push_cast [getD_map hi2, hget, XEvent.row, XEvent.mrk]
    try simp (disch := omega) only [wrap64]
    repeat (first | refine And.intro (by omega) ?_ | refine And.intro ⟨by omega, by omega⟩ ?_ | refine And.intro ⟨by omega, by omega, by omega⟩ ?_)
    have hc := t_markText (G := G) (K + 1 + 1 + cntL (fun _ => 1) xs[i].Ring.Members + 1 + 1 + 1) (by omega)
    try simp only [Int.natCast_add, Int.cast_ofNat_Int, Int.natCast_one] at hc
    refine call_ok hc ?_
    clear hc
    push_cast [getD_map hi2, hget, XEvent.row, XEvent.mrk]
    refine ⟨by kernel_rfl, ?_⟩
    try simp (disch := omega) only [wrap64]
    repeat (first | refine And.intro (by omega) ?_ | refine And.intro ⟨by omega, by omega⟩ ?_ | refine And.intro ⟨by omega, by omega, by omega⟩ ?_)
    have hc := t_heldIntS (G := G) xs[i].With (K + 1 + 1 + cntL (fun _ => 1) xs[i].Ring.Members + 1 + 1 + 1 + 1) (by omega)
    try simp only [Int.natCast_add, Int.cast_ofNat_Int, Int.natCast_one] at hc
    refine call_ok hc ?_
    clear hc
    push_cast [getD_map hi2, hget, XEvent.row, XEvent.mrk]
    refine cnd_dec (fun h => by omega) (fun _ => ?_)
    push_cast [getD_map hi2, hget, XEvent.row, XEvent.mrk]
    try simp (disch := omega) only [wrap64]
    refine ⟨i + 1, ?_, by omega, by omega⟩
    have hcl2 := congrArg (fun x : Nat => (x : Int)) hcl
    try simp only [XEvent.ct, Int.natCast_add, Int.cast_ofNat_Int, Int.natCast_one] at hcl2
    try simp only [Int.natCast_add, Int.cast_ofNat_Int, Int.natCast_one]
    rw [hcl2]
    try simp only [Int.add_assoc]
  · have hi : i = xs.length := by omega
    subst hi
    rw [List.take_length]
    push_cast
    refine cnd_dec (fun hlt => ?_) (fun hge => ?_)
    · omega
    push_cast

noncomputable def c_laws_heldGroupS : ACode := (.seq (.reg false [⟨none, .tk 4 (.k (.i .i64 0)), []⟩] [0, 1]) (.seq (.seq (.reg false [⟨none, .asg 5 (.k (.i .i64 0)), []⟩] [0, 1, 5]) (.block 0 (.loop [0, 1, 5] (.seq (.seq (.reg false [⟨none, .p 6 (.mv (.t 5)), []⟩, ⟨none, .p 7 (.mv (.t 0)), []⟩, ⟨none, .p 8 (.len false (.t 7)), []⟩, ⟨none, .p 9 (.bin .lss (.t 6) (.t 8)), []⟩] [0, 1, 5, 9]) (.cond (.t 9) .skip (.exit 0 [1]))) (.seq (.block 1 (.seq (.seq (.reg true [⟨none, .p 12 (.mv (.t 0)), []⟩, ⟨none, .p 13 (.mv (.t 5)), []⟩, ⟨none, .p 14 (.ia (.t 12) (.t 13) 2), [0, 1]⟩, ⟨none, .p 15 (.fa (.t 14) 0 0), [2]⟩, ⟨none, .p 16 (.ld (.t 15) 0 1 false), [3]⟩, ⟨none, .p 17 (.mv (.t 1)), []⟩, ⟨none, .call (some 18) 50 [.rd (.t 17)], [5]⟩, ⟨none, .p 19 (.bin .neq (.t 16) (.t 18)), [4, 6]⟩] [0, 1, 5, 19]) (.cond (.t 19) (.seq (.reg false [⟨none, .tk 4 (.k (.i .i64 (-1))), []⟩] [4]) .ret) .skip)) (.seq (.reg false [⟨none, .p 20 (.mv (.t 1)), []⟩, ⟨none, .p 21 (.bin .add (.t 20) (.k (.i .i64 1))), []⟩, ⟨none, .asg 1 (.t 21), []⟩] [0, 1, 5]) (.seq (.reg false [⟨none, .p 22 (.mv (.t 0)), []⟩, ⟨none, .p 23 (.mv (.t 5)), []⟩, ⟨none, .p 24 (.ia (.t 22) (.t 23) 2), []⟩, ⟨none, .p 25 (.fa (.t 24) 0 1), []⟩, ⟨none, .p 26 (.ld (.t 25) 0 1 false), []⟩, ⟨none, .p 27 (.mv (.t 1)), []⟩, ⟨none, .call (some 28) 57 [.rd (.t 26), .rd (.t 27)], []⟩, ⟨none, .asg 1 (.t 28), []⟩] [0, 1, 5]) (.seq (.reg false [⟨none, .p 29 (.mv (.t 1)), []⟩, ⟨none, .p 30 (.bin .lss (.t 29) (.k (.i .i64 0))), []⟩] [0, 1, 5, 30]) (.cond (.t 30) (.seq (.reg false [⟨none, .tk 4 (.k (.i .i64 (-1))), []⟩] [4]) .ret) .skip)))))) (.reg false [⟨none, .p 10 (.mv (.t 5)), []⟩, ⟨none, .p 11 (.bin .add (.t 10) (.k (.i .i64 1))), []⟩, ⟨none, .asg 5 (.t 11), []⟩] [0, 1, 5])))))) (.seq (.reg false [⟨none, .p 31 (.mv (.t 1)), []⟩, ⟨none, .tk 4 (.t 31), []⟩] [4]) .ret)))
theorem code_laws_heldGroupS : ∃ c, Tryd.f58.body = some c ∧ cfit PP 32 c c_laws_heldGroupS = true := by
  refine ⟨_, (rfl : Tryd.f58.body = some _), ?_⟩
  kernel_rfl
theorem t_heldGroupS {G : Glob} (xs : List XGroup) (k : Nat) (hk : k + cntL XGroup.ct xs ≤ 1073741824) : FnD PP G 58 [.val false [.vw none [] (.sl .ow 2 ((mkL XGroup.mrk XGroup.ct k xs).map XGroup.row))], .val false [.ow (.lit (.int .i64 k))]] [] []
    [.v false [.ow (.lit (.int .i64 (k + cntL XGroup.ct xs : Nat)))]] [] [] := by
  refine fn_bd fun hbd => ?_
  have hx : (mkL XGroup.mrk XGroup.ct k xs).length ≤ 281474976710656 := hbd _ (by simp [hdsA, lenT, Cl.tree])
  rw [mkL_len] at hx
  clear hbd
  obtain ⟨cc, hb, hcf⟩ := code_laws_heldGroupS
  refine fn_ok (fn := Tryd.f58) (specs := [.t 4]) (by kernel_rfl) hb (by show (32:Nat) ≤ 10000; omega) hcf (by kernel_rfl) (by show (2:Nat) ≤ 32; omega) (by simp) (by simp) rfl rfl (by simp) rfl ?_
  simp only [c_laws_heldGroupS]
  push_cast
  refine cwp_loop (fun i : Nat => ⟨[(0, .val false [.vw none [] (.sl .ow 2 ((mkL XGroup.mrk XGroup.ct k xs).map XGroup.row))]), (1, .val false [.ow (.lit (.int .i64 (k + cntL XGroup.ct (xs.take i) : Nat)))]), (5, .val false [.ow (.lit (.int .i64 i))])], []⟩)
    (fun i => i ≤ xs.length) (fun i => xs.length - i) 0 rfl (by simp [cntL]; rfl) (by omega) ?_
  intro i hle
  have hlen : (mkL XGroup.mrk XGroup.ct k xs).length = xs.length := mkL_len _ _ _ _
  by_cases hi : i < xs.length
  · have hi2 : i < (mkL XGroup.mrk XGroup.ct k xs).length := by omega
    have hget : (mkL XGroup.mrk XGroup.ct k xs)[i] = XGroup.mrk (k + cntL XGroup.ct (xs.take i)) xs[i] := mkL_get _ _ _ _ _ hi _
    have hcl : k + cntL XGroup.ct (xs.take (i + 1)) = (k + cntL XGroup.ct (xs.take i)) + XGroup.ct xs[i] := cnt_step XGroup.ct xs k i hi
    have hKb : (k + cntL XGroup.ct (xs.take i)) + XGroup.ct xs[i] ≤ 1073741824 := Nat.le_trans (cnt_le XGroup.ct xs k i hi) hk
    generalize k + cntL XGroup.ct (xs.take i) = K at hcl hKb hget ⊢
    try simp only [XGroup.ct] at hKb
    push_cast [getD_map hi2, hget, XGroup.row, XGroup.mrk]
    refine cnd_dec (fun hlt => ?_) (fun hge => by omega)
    push_cast [getD_map hi2, hget, XGroup.row, XGroup.mrk]
    try simp (disch := omega) only [wrap64]
    refine draw_any ?_
    push_cast [getD_map hi2, hget, XGroup.row, XGroup.mrk]
    try simp (disch := omega) only [wrap64]
    repeat (first | refine And.intro (by omega) ?_ | refine And.intro ⟨by omega, by omega⟩ ?_ | refine And.intro ⟨by omega, by omega, by omega⟩ ?_)
    have hc := t_markText (G := G) (K) (by omega)
    try simp only [Int.natCast_add, Int.cast_ofNat_Int, Int.natCast_one] at hc
    refine call_ok hc ?_
    clear hc
    push_cast [getD_map hi2, hget, XGroup.row, XGroup.mrk]
    refine ⟨by kernel_rfl, ?_⟩
    try simp (disch := omega) only [wrap64]
    repeat (first | refine And.intro (by omega) ?_ | refine And.intro ⟨by omega, by omega⟩ ?_ | refine And.intro ⟨by omega, by omega, by omega⟩ ?_)
    have hc := t_heldStringS (G := G) xs[i].Members (K + 1) (by omega)
    try simp only [Int.natCast_add, Int.cast_ofNat_Int, Int.natCast_one] at hc
    refine call_ok hc ?_
    clear hc
    push_cast [getD_map hi2, hget, XGroup.row, XGroup.mrk]
    refine cnd_dec (fun h => by omega) (fun _ => ?_)
    push_cast [getD_map hi2, hget, XGroup.row, XGroup.mrk]
    try simp (disch := omega) only [wrap64]
    refine ⟨i + 1, ?_, by omega, by omega⟩
    have hcl2 := congrArg (fun x : Nat => (x : Int)) hcl
    try simp only [XGroup.ct, Int.natCast_add, Int.cast_ofNat_Int, Int.natCast_one] at hcl2
    try simp only [Int.natCast_add, Int.cast_ofNat_Int, Int.natCast_one]
    rw [hcl2]
    try simp only [Int.add_assoc]
  · have hi : i = xs.length := by omega
    subst hi
    rw [List.take_length]
    push_cast
    refine cnd_dec (fun hlt => ?_) (fun hge => ?_)
    · omega
    push_cast

noncomputable def c_laws_heldTableS : ACode := (.seq (.reg false [⟨none, .tk 4 (.k (.i .i64 0)), []⟩] [0, 1]) (.seq (.seq (.reg false [⟨none, .asg 5 (.k (.i .i64 0)), []⟩] [0, 1, 5]) (.block 0 (.loop [0, 1, 5] (.seq (.seq (.reg false [⟨none, .p 6 (.mv (.t 5)), []⟩, ⟨none, .p 7 (.mv (.t 0)), []⟩, ⟨none, .p 8 (.len false (.t 7)), []⟩, ⟨none, .p 9 (.bin .lss (.t 6) (.t 8)), []⟩] [0, 1, 5, 9]) (.cond (.t 9) .skip (.exit 0 [1]))) (.seq (.block 1 (.seq (.reg false [⟨none, .p 12 (.mv (.t 0)), []⟩, ⟨none, .p 13 (.mv (.t 5)), []⟩, ⟨none, .p 14 (.ia (.t 12) (.t 13) 1), []⟩, ⟨none, .p 15 (.fa (.t 14) 0 0), []⟩, ⟨none, .p 16 (.ld (.t 15) 0 1 false), []⟩, ⟨none, .p 17 (.mv (.t 1)), []⟩, ⟨none, .call (some 18) 58 [.rd (.t 16), .rd (.t 17)], []⟩, ⟨none, .asg 1 (.t 18), []⟩] [0, 1, 5]) (.seq (.reg false [⟨none, .p 19 (.mv (.t 1)), []⟩, ⟨none, .p 20 (.bin .lss (.t 19) (.k (.i .i64 0))), []⟩] [0, 1, 5, 20]) (.cond (.t 20) (.seq (.reg false [⟨none, .tk 4 (.k (.i .i64 (-1))), []⟩] [4]) .ret) .skip)))) (.reg false [⟨none, .p 10 (.mv (.t 5)), []⟩, ⟨none, .p 11 (.bin .add (.t 10) (.k (.i .i64 1))), []⟩, ⟨none, .asg 5 (.t 11), []⟩] [0, 1, 5])))))) (.seq (.reg false [⟨none, .p 21 (.mv (.t 1)), []⟩, ⟨none, .tk 4 (.t 21), []⟩] [4]) .ret)))
theorem code_laws_heldTableS : ∃ c, Tryd.f30.body = some c ∧ cfit PP 22 c c_laws_heldTableS = true := by
  refine ⟨_, (rfl : Tryd.f30.body = some _), ?_⟩
  kernel_rfl
theorem t_heldTableS {G : Glob} (xs : List XTable) (k : Nat) (hk : k + cntL XTable.ct xs ≤ 1073741824) : FnD PP G 30 [.val false [.vw none [] (.sl .ow 1 ((mkL XTable.mrk XTable.ct k xs).map XTable.row))], .val false [.ow (.lit (.int .i64 k))]] [] []
    [.v false [.ow (.lit (.int .i64 (k + cntL XTable.ct xs : Nat)))]] [] [] := by
  refine fn_bd fun hbd => ?_
  have hx : (mkL XTable.mrk XTable.ct k xs).length ≤ 281474976710656 := hbd _ (by simp [hdsA, lenT, Cl.tree])
  rw [mkL_len] at hx
  clear hbd
  obtain ⟨cc, hb, hcf⟩ := code_laws_heldTableS
  refine fn_ok (fn := Tryd.f30) (specs := [.t 4]) (by kernel_rfl) hb (by show (22:Nat) ≤ 10000; omega) hcf (by kernel_rfl) (by show (2:Nat) ≤ 22; omega) (by simp) (by simp) rfl rfl (by simp) rfl ?_
  simp only [c_laws_heldTableS]
  push_cast
  refine cwp_loop (fun i : Nat => ⟨[(0, .val false [.vw none [] (.sl .ow 1 ((mkL XTable.mrk XTable.ct k xs).map XTable.row))]), (1, .val false [.ow (.lit (.int .i64 (k + cntL XTable.ct (xs.take i) : Nat)))]), (5, .val false [.ow (.lit (.int .i64 i))])], []⟩)
    (fun i => i ≤ xs.length) (fun i => xs.length - i) 0 rfl (by simp [cntL]; rfl) (by omega) ?_
  intro i hle
  have hlen : (mkL XTable.mrk XTable.ct k xs).length = xs.length := mkL_len _ _ _ _
  by_cases hi : i < xs.length
  · have hi2 : i < (mkL XTable.mrk XTable.ct k xs).length := by omega
    have hget : (mkL XTable.mrk XTable.ct k xs)[i] = XTable.mrk (k + cntL XTable.ct (xs.take i)) xs[i] := mkL_get _ _ _ _ _ hi _
    have hcl : k + cntL XTable.ct (xs.take (i + 1)) = (k + cntL XTable.ct (xs.take i)) + XTable.ct xs[i] := cnt_step XTable.ct xs k i hi
    have hKb : (k + cntL XTable.ct (xs.take i)) + XTable.ct xs[i] ≤ 1073741824 := Nat.le_trans (cnt_le XTable.ct xs k i hi) hk
    generalize k + cntL XTable.ct (xs.take i) = K at hcl hKb hget ⊢
    try simp only [XTable.ct] at hKb
    push_cast [getD_map hi2, hget, XTable.row, XTable.mrk]
    refine cnd_dec (fun hlt => ?_) (fun hge => by omega)
    push_cast [getD_map hi2, hget, XTable.row, XTable.mrk]
    try simp (disch := omega) only [wrap64]
    repeat (first | refine And.intro (by omega) ?_ | refine And.intro ⟨by omega, by omega⟩ ?_ | refine And.intro ⟨by omega, by omega, by omega⟩ ?_)
    have hc := t_heldGroupS (G := G) xs[i].Groups (K) (by omega)
    try simp only [Int.natCast_add, Int.cast_ofNat_Int, Int.natCast_one] at hc
    refine call_ok hc ?_
    clear hc
    push_cast [getD_map hi2, hget, XTable.row, XTable.mrk]
    refine cnd_dec (fun h => by omega) (fun _ => ?_)
    push_cast [getD_map hi2, hget, XTable.row, XTable.mrk]
    try simp (disch := omega) only [wrap64]
    refine ⟨i + 1, ?_, by omega, by omega⟩
    have hcl2 := congrArg (fun x : Nat => (x : Int)) hcl
    try simp only [XTable.ct, Int.natCast_add, Int.cast_ofNat_Int, Int.natCast_one] at hcl2
    try simp only [Int.natCast_add, Int.cast_ofNat_Int, Int.natCast_one]
    rw [hcl2]
    try simp only [Int.add_assoc]
  · have hi : i = xs.length := by omega
    subst hi
    rw [List.take_length]
    push_cast
    refine cnd_dec (fun hlt => ?_) (fun hge => ?_)
    · omega
    push_cast

noncomputable def c_laws_heldDaemonS : ACode := (.seq (.reg false [⟨none, .tk 4 (.k (.i .i64 0)), []⟩] [0, 1]) (.seq (.seq (.reg false [⟨none, .asg 5 (.k (.i .i64 0)), []⟩] [0, 1, 5]) (.block 0 (.loop [0, 1, 5] (.seq (.seq (.reg false [⟨none, .p 6 (.mv (.t 5)), []⟩, ⟨none, .p 7 (.mv (.t 0)), []⟩, ⟨none, .p 8 (.len false (.t 7)), []⟩, ⟨none, .p 9 (.bin .lss (.t 6) (.t 8)), []⟩] [0, 1, 5, 9]) (.cond (.t 9) .skip (.exit 0 [1]))) (.seq (.block 1 (.seq (.seq (.reg false [⟨none, .p 12 (.mv (.t 0)), []⟩, ⟨none, .p 13 (.mv (.t 5)), []⟩, ⟨none, .p 14 (.ia (.t 12) (.t 13) 24), []⟩, ⟨none, .p 15 (.fa (.t 14) 0 0), []⟩, ⟨none, .p 16 (.ld (.t 15) 0 1 false), []⟩, ⟨none, .p 17 (.mv (.t 1)), []⟩, ⟨none, .p 18 (.bin .neq (.t 16) (.t 17)), []⟩] [0, 1, 5, 18]) (.cond (.t 18) (.seq (.reg false [⟨none, .tk 4 (.k (.i .i64 (-1))), []⟩] [4]) .ret) .skip)) (.seq (.reg false [⟨none, .p 19 (.mv (.t 1)), []⟩, ⟨none, .p 20 (.bin .add (.t 19) (.k (.i .i64 1))), []⟩, ⟨none, .asg 1 (.t 20), []⟩] [0, 1, 5]) (.seq (.seq (.reg false [⟨none, .p 21 (.mv (.t 0)), []⟩, ⟨none, .p 22 (.mv (.t 5)), []⟩, ⟨none, .p 23 (.ia (.t 21) (.t 22) 24), []⟩, ⟨none, .p 24 (.fa (.t 23) 0 1), []⟩, ⟨none, .p 25 (.ld (.t 24) 0 1 false), []⟩, ⟨none, .p 26 (.mv (.t 1)), []⟩, ⟨none, .p 27 (.bin .rem (.t 26) (.k (.i .i64 3))), []⟩, ⟨none, .p 28 (.bin .eql (.t 27) (.k (.i .i64 0))), []⟩, ⟨none, .p 29 (.beq true (.t 25) (.t 28)), []⟩] [0, 1, 5, 29]) (.cond (.t 29) (.seq (.reg false [⟨none, .tk 4 (.k (.i .i64 (-1))), []⟩] [4]) .ret) .skip)) (.seq (.reg false [⟨none, .p 30 (.mv (.t 1)), []⟩, ⟨none, .p 31 (.bin .add (.t 30) (.k (.i .i64 1))), []⟩, ⟨none, .asg 1 (.t 31), []⟩] [0, 1, 5]) (.seq (.seq (.reg false [⟨none, .p 32 (.mv (.t 0)), []⟩, ⟨none, .p 33 (.mv (.t 5)), []⟩, ⟨none, .p 34 (.ia (.t 32) (.t 33) 24), []⟩, ⟨none, .p 35 (.fa (.t 34) 0 2), []⟩, ⟨none, .p 36 (.fa (.t 35) 0 0), []⟩, ⟨none, .p 37 (.ld (.t 36) 0 1 false), []⟩, ⟨none, .p 38 (.mv (.t 1)), []⟩, ⟨none, .p 39 (.bin .neq (.t 37) (.t 38)), []⟩] [0, 1, 5, 39]) (.cond (.t 39) (.seq (.reg false [⟨none, .tk 4 (.k (.i .i64 (-1))), []⟩] [4]) .ret) .skip)) (.seq (.reg false [⟨none, .p 40 (.mv (.t 1)), []⟩, ⟨none, .p 41 (.bin .add (.t 40) (.k (.i .i64 1))), []⟩, ⟨none, .asg 1 (.t 41), []⟩] [0, 1, 5]) (.seq (.seq (.reg false [⟨none, .p 42 (.mv (.t 0)), []⟩, ⟨none, .p 43 (.mv (.t 5)), []⟩, ⟨none, .p 44 (.ia (.t 42) (.t 43) 24), []⟩, ⟨none, .p 45 (.fa (.t 44) 0 2), []⟩, ⟨none, .p 46 (.fa (.t 45) 0 1), []⟩, ⟨none, .p 47 (.fa (.t 46) 0 0), []⟩, ⟨none, .p 48 (.ld (.t 47) 0 1 false), []⟩, ⟨none, .p 49 (.mv (.t 1)), []⟩, ⟨none, .p 50 (.bin .neq (.t 48) (.t 49)), []⟩] [0, 1, 5, 50]) (.cond (.t 50) (.seq (.reg false [⟨none, .tk 4 (.k (.i .i64 (-1))), []⟩] [4]) .ret) .skip)) (.seq (.reg false [⟨none, .p 51 (.mv (.t 1)), []⟩, ⟨none, .p 52 (.bin .add (.t 51) (.k (.i .i64 1))), []⟩, ⟨none, .asg 1 (.t 52), []⟩] [0, 1, 5]) (.seq (.reg false [⟨none, .p 53 (.mv (.t 0)), []⟩, ⟨none, .p 54 (.mv (.t 5)), []⟩, ⟨none, .p 55 (.ia (.t 53) (.t 54) 24), []⟩, ⟨none, .p 56 (.fa (.t 55) 0 2), []⟩, ⟨none, .p 57 (.fa (.t 56) 0 1), []⟩, ⟨none, .p 58 (.fa (.t 57) 0 1), []⟩, ⟨none, .p 59 (.ld (.t 58) 0 1 false), []⟩, ⟨none, .p 60 (.mv (.t 1)), []⟩, ⟨none, .call (some 61) 31 [.rd (.t 59), .rd (.t 60)], []⟩, ⟨none, .asg 1 (.t 61), []⟩] [0, 1, 5]) (.seq (.seq (.reg false [⟨none, .p 62 (.mv (.t 1)), []⟩, ⟨none, .p 63 (.bin .lss (.t 62) (.k (.i .i64 0))), []⟩] [0, 1, 5, 63]) (.cond (.t 63) (.seq (.reg false [⟨none, .tk 4 (.k (.i .i64 (-1))), []⟩] [4]) .ret) .skip)) (.seq (.reg false [⟨none, .p 64 (.mv (.t 0)), []⟩, ⟨none, .p 65 (.mv (.t 5)), []⟩, ⟨none, .p 66 (.ia (.t 64) (.t 65) 24), []⟩, ⟨none, .p 67 (.fa (.t 66) 0 2), []⟩, ⟨none, .p 68 (.fa (.t 67) 0 3), []⟩, ⟨none, .p 69 (.ld (.t 68) 0 1 false), []⟩, ⟨none, .p 70 (.mv (.t 1)), []⟩, ⟨none, .call (some 71) 76 [.rd (.t 69), .rd (.t 70)], []⟩, ⟨none, .asg 1 (.t 71), []⟩] [0, 1, 5]) (.seq (.seq (.reg false [⟨none, .p 72 (.mv (.t 1)), []⟩, ⟨none, .p 73 (.bin .lss (.t 72) (.k (.i .i64 0))), []⟩] [0, 1, 5, 73]) (.cond (.t 73) (.seq (.reg false [⟨none, .tk 4 (.k (.i .i64 (-1))), []⟩] [4]) .ret) .skip)) (.seq (.reg false [⟨none, .p 74 (.mv (.t 0)), []⟩, ⟨none, .p 75 (.mv (.t 5)), []⟩, ⟨none, .p 76 (.ia (.t 74) (.t 75) 24), []⟩, ⟨none, .p 77 (.fa (.t 76) 0 2), []⟩, ⟨none, .p 78 (.fa (.t 77) 0 4), []⟩, ⟨none, .p 79 (.ld (.t 78) 0 1 false), []⟩, ⟨none, .p 80 (.mv (.t 1)), []⟩, ⟨none, .call (some 81) 31 [.rd (.t 79), .rd (.t 80)], []⟩, ⟨none, .asg 1 (.t 81), []⟩] [0, 1, 5]) (.seq (.seq (.reg false [⟨none, .p 82 (.mv (.t 1)), []⟩, ⟨none, .p 83 (.bin .lss (.t 82) (.k (.i .i64 0))), []⟩] [0, 1, 5, 83]) (.cond (.t 83) (.seq (.reg false [⟨none, .tk 4 (.k (.i .i64 (-1))), []⟩] [4]) .ret) .skip)) (.seq (.reg false [⟨none, .p 84 (.mv (.t 0)), []⟩, ⟨none, .p 85 (.mv (.t 5)), []⟩, ⟨none, .p 86 (.ia (.t 84) (.t 85) 24), []⟩, ⟨none, .p 87 (.fa (.t 86) 0 2), []⟩, ⟨none, .p 88 (.fa (.t 87) 0 5), []⟩, ⟨none, .p 89 (.ld (.t 88) 0 1 false), []⟩, ⟨none, .p 90 (.mv (.t 1)), []⟩, ⟨none, .call (some 91) 57 [.rd (.t 89), .rd (.t 90)], []⟩, ⟨none, .asg 1 (.t 91), []⟩] [0, 1, 5]) (.seq (.seq (.reg false [⟨none, .p 92 (.mv (.t 1)), []⟩, ⟨none, .p 93 (.bin .lss (.t 92) (.k (.i .i64 0))), []⟩] [0, 1, 5, 93]) (.cond (.t 93) (.seq (.reg false [⟨none, .tk 4 (.k (.i .i64 (-1))), []⟩] [4]) .ret) .skip)) (.seq (.seq (.reg false [⟨none, .p 94 (.mv (.t 0)), []⟩, ⟨none, .p 95 (.mv (.t 5)), []⟩, ⟨none, .p 96 (.ia (.t 94) (.t 95) 24), []⟩, ⟨none, .p 97 (.fa (.t 96) 0 2), []⟩, ⟨none, .p 98 (.fa (.t 97) 0 6), []⟩, ⟨none, .p 99 (.ld (.t 98) 0 1 false), []⟩, ⟨none, .p 100 (.mv (.t 1)), []⟩, ⟨none, .p 101 (.bin .neq (.t 99) (.t 100)), []⟩] [0, 1, 5, 101]) (.cond (.t 101) (.seq (.reg false [⟨none, .tk 4 (.k (.i .i64 (-1))), []⟩] [4]) .ret) .skip)) (.seq (.reg false [⟨none, .p 102 (.mv (.t 1)), []⟩, ⟨none, .p 103 (.bin .add (.t 102) (.k (.i .i64 1))), []⟩, ⟨none, .asg 1 (.t 103), []⟩] [0, 1, 5]) (.seq (.seq (.reg false [⟨none, .p 104 (.mv (.t 0)), []⟩, ⟨none, .p 105 (.mv (.t 5)), []⟩, ⟨none, .p 106 (.ia (.t 104) (.t 105) 24), []⟩, ⟨none, .p 107 (.fa (.t 106) 0 2), []⟩, ⟨none, .p 108 (.fa (.t 107) 0 7), []⟩, ⟨none, .p 109 (.ld (.t 108) 0 1 false), []⟩, ⟨none, .p 110 (.mv (.t 1)), []⟩, ⟨none, .p 111 (.bin .neq (.t 109) (.t 110)), []⟩] [0, 1, 5, 111]) (.cond (.t 111) (.seq (.reg false [⟨none, .tk 4 (.k (.i .i64 (-1))), []⟩] [4]) .ret) .skip)) (.seq (.reg false [⟨none, .p 112 (.mv (.t 1)), []⟩, ⟨none, .p 113 (.bin .add (.t 112) (.k (.i .i64 1))), []⟩, ⟨none, .asg 1 (.t 113), []⟩] [0, 1, 5]) (.seq (.seq (.reg false [⟨none, .p 114 (.mv (.t 0)), []⟩, ⟨none, .p 115 (.mv (.t 5)), []⟩, ⟨none, .p 116 (.ia (.t 114) (.t 115) 24), []⟩, ⟨none, .p 117 (.fa (.t 116) 0 2), []⟩, ⟨none, .p 118 (.fa (.t 117) 0 8), []⟩, ⟨none, .p 119 (.ld (.t 118) 0 1 false), []⟩, ⟨none, .p 120 (.mv (.t 1)), []⟩, ⟨none, .p 121 (.bin .neq (.t 119) (.t 120)), []⟩] [0, 1, 5, 121]) (.cond (.t 121) (.seq (.reg false [⟨none, .tk 4 (.k (.i .i64 (-1))), []⟩] [4]) .ret) .skip)) (.seq (.reg false [⟨none, .p 122 (.mv (.t 1)), []⟩, ⟨none, .p 123 (.bin .add (.t 122) (.k (.i .i64 1))), []⟩, ⟨none, .asg 1 (.t 123), []⟩] [0, 1, 5]) (.seq (.seq (.reg false [⟨none, .p 124 (.mv (.t 0)), []⟩, ⟨none, .p 125 (.mv (.t 5)), []⟩, ⟨none, .p 126 (.ia (.t 124) (.t 125) 24), []⟩, ⟨none, .p 127 (.fa (.t 126) 0 2), []⟩, ⟨none, .p 128 (.fa (.t 127) 0 9), []⟩, ⟨none, .p 129 (.ld (.t 128) 0 1 false), []⟩, ⟨none, .p 130 (.mv (.t 1)), []⟩, ⟨none, .p 131 (.bin .neq (.t 129) (.t 130)), []⟩] [0, 1, 5, 131]) (.cond (.t 131) (.seq (.reg false [⟨none, .tk 4 (.k (.i .i64 (-1))), []⟩] [4]) .ret) .skip)) (.seq (.reg false [⟨none, .p 132 (.mv (.t 1)), []⟩, ⟨none, .p 133 (.bin .add (.t 132) (.k (.i .i64 1))), []⟩, ⟨none, .asg 1 (.t 133), []⟩] [0, 1, 5]) (.seq (.seq (.reg false [⟨none, .p 134 (.mv (.t 0)), []⟩, ⟨none, .p 135 (.mv (.t 5)), []⟩, ⟨none, .p 136 (.ia (.t 134) (.t 135) 24), []⟩, ⟨none, .p 137 (.fa (.t 136) 0 2), []⟩, ⟨none, .p 138 (.fa (.t 137) 0 10), []⟩, ⟨none, .p 139 (.fa (.t 138) 0 0), []⟩, ⟨none, .p 140 (.ld (.t 139) 0 1 false), []⟩, ⟨none, .p 141 (.mv (.t 1)), []⟩, ⟨none, .p 142 (.bin .neq (.t 140) (.t 141)), []⟩] [0, 1, 5, 142]) (.cond (.t 142) (.seq (.reg false [⟨none, .tk 4 (.k (.i .i64 (-1))), []⟩] [4]) .ret) .skip)) (.seq (.reg false [⟨none, .p 143 (.mv (.t 1)), []⟩, ⟨none, .p 144 (.bin .add (.t 143) (.k (.i .i64 1))), []⟩, ⟨none, .asg 1 (.t 144), []⟩] [0, 1, 5]) (.seq (.seq (.reg false [⟨none, .p 145 (.mv (.t 0)), []⟩, ⟨none, .p 146 (.mv (.t 5)), []⟩, ⟨none, .p 147 (.ia (.t 145) (.t 146) 24), []⟩, ⟨none, .p 148 (.fa (.t 147) 0 2), []⟩, ⟨none, .p 149 (.fa (.t 148) 0 10), []⟩, ⟨none, .p 150 (.fa (.t 149) 0 1), []⟩, ⟨none, .p 151 (.ld (.t 150) 0 1 false), []⟩, ⟨none, .p 152 (.mv (.t 1)), []⟩, ⟨none, .p 153 (.bin .neq (.t 151) (.t 152)), []⟩] [0, 1, 5, 153]) (.cond (.t 153) (.seq (.reg false [⟨none, .tk 4 (.k (.i .i64 (-1))), []⟩] [4]) .ret) .skip)) (.seq (.reg false [⟨none, .p 154 (.mv (.t 1)), []⟩, ⟨none, .p 155 (.bin .add (.t 154) (.k (.i .i64 1))), []⟩, ⟨none, .asg 1 (.t 155), []⟩] [0, 1, 5]) (.seq (.seq (.reg false [⟨none, .p 156 (.mv (.t 0)), []⟩, ⟨none, .p 157 (.mv (.t 5)), []⟩, ⟨none, .p 158 (.ia (.t 156) (.t 157) 24), []⟩, ⟨none, .p 159 (.fa (.t 158) 0 2), []⟩, ⟨none, .p 160 (.fa (.t 159) 0 10), []⟩, ⟨none, .p 161 (.fa (.t 160) 0 2), []⟩, ⟨none, .p 162 (.ld (.t 161) 0 1 false), []⟩, ⟨none, .p 163 (.mv (.t 1)), []⟩, ⟨none, .p 164 (.bin .neq (.t 162) (.t 163)), []⟩] [0, 1, 5, 164]) (.cond (.t 164) (.seq (.reg false [⟨none, .tk 4 (.k (.i .i64 (-1))), []⟩] [4]) .ret) .skip)) (.seq (.reg false [⟨none, .p 165 (.mv (.t 1)), []⟩, ⟨none, .p 166 (.bin .add (.t 165) (.k (.i .i64 1))), []⟩, ⟨none, .asg 1 (.t 166), []⟩] [0, 1, 5]) (.seq (.seq (.reg false [⟨none, .p 167 (.mv (.t 0)), []⟩, ⟨none, .p 168 (.mv (.t 5)), []⟩, ⟨none, .p 169 (.ia (.t 167) (.t 168) 24), []⟩, ⟨none, .p 170 (.fa (.t 169) 0 2), []⟩, ⟨none, .p 171 (.fa (.t 170) 0 10), []⟩, ⟨none, .p 172 (.fa (.t 171) 0 3), []⟩, ⟨none, .p 173 (.ld (.t 172) 0 1 false), []⟩, ⟨none, .p 174 (.mv (.t 1)), []⟩, ⟨none, .p 175 (.bin .neq (.t 173) (.t 174)), []⟩] [0, 1, 5, 175]) (.cond (.t 175) (.seq (.reg false [⟨none, .tk 4 (.k (.i .i64 (-1))), []⟩] [4]) .ret) .skip)) (.seq (.reg false [⟨none, .p 176 (.mv (.t 1)), []⟩, ⟨none, .p 177 (.bin .add (.t 176) (.k (.i .i64 1))), []⟩, ⟨none, .asg 1 (.t 177), []⟩] [0, 1, 5]) (.seq (.seq (.reg false [⟨none, .p 178 (.mv (.t 0)), []⟩, ⟨none, .p 179 (.mv (.t 5)), []⟩, ⟨none, .p 180 (.ia (.t 178) (.t 179) 24), []⟩, ⟨none, .p 181 (.fa (.t 180) 0 2), []⟩, ⟨none, .p 182 (.fa (.t 181) 0 10), []⟩, ⟨none, .p 183 (.fa (.t 182) 0 4), []⟩, ⟨none, .p 184 (.ld (.t 183) 0 1 false), []⟩, ⟨none, .p 185 (.mv (.t 1)), []⟩, ⟨none, .p 186 (.bin .neq (.t 184) (.t 185)), []⟩] [0, 1, 5, 186]) (.cond (.t 186) (.seq (.reg false [⟨none, .tk 4 (.k (.i .i64 (-1))), []⟩] [4]) .ret) .skip)) (.seq (.reg false [⟨none, .p 187 (.mv (.t 1)), []⟩, ⟨none, .p 188 (.bin .add (.t 187) (.k (.i .i64 1))), []⟩, ⟨none, .asg 1 (.t 188), []⟩] [0, 1, 5]) (.seq (.reg false [⟨none, .p 189 (.mv (.t 0)), []⟩, ⟨none, .p 190 (.mv (.t 5)), []⟩, ⟨none, .p 191 (.ia (.t 189) (.t 190) 24), []⟩, ⟨none, .p 192 (.fa (.t 191) 0 2), []⟩, ⟨none, .p 193 (.fa (.t 192) 0 10), []⟩, ⟨none, .p 194 (.fa (.t 193) 0 5), []⟩, ⟨none, .p 195 (.ld (.t 194) 0 1 false), []⟩, ⟨none, .p 196 (.mv (.t 1)), []⟩, ⟨none, .call (some 197) 31 [.rd (.t 195), .rd (.t 196)], []⟩, ⟨none, .asg 1 (.t 197), []⟩] [0, 1, 5]) (.seq (.seq (.reg false [⟨none, .p 198 (.mv (.t 1)), []⟩, ⟨none, .p 199 (.bin .lss (.t 198) (.k (.i .i64 0))), []⟩] [0, 1, 5, 199]) (.cond (.t 199) (.seq (.reg false [⟨none, .tk 4 (.k (.i .i64 (-1))), []⟩] [4]) .ret) .skip)) (.seq (.seq (.reg false [⟨none, .p 200 (.mv (.t 0)), []⟩, ⟨none, .p 201 (.mv (.t 5)), []⟩, ⟨none, .p 202 (.ia (.t 200) (.t 201) 24), []⟩, ⟨none, .p 203 (.fa (.t 202) 0 18), []⟩, ⟨none, .p 204 (.ld (.t 203) 0 1 false), []⟩, ⟨none, .p 205 (.mv (.t 1)), []⟩, ⟨none, .p 206 (.bin .neq (.t 204) (.t 205)), []⟩] [0, 1, 5, 206]) (.cond (.t 206) (.seq (.reg false [⟨none, .tk 4 (.k (.i .i64 (-1))), []⟩] [4]) .ret) .skip)) (.seq (.reg false [⟨none, .p 207 (.mv (.t 1)), []⟩, ⟨none, .p 208 (.bin .add (.t 207) (.k (.i .i64 1))), []⟩, ⟨none, .asg 1 (.t 208), []⟩] [0, 1, 5]) (.seq (.seq (.reg false [⟨none, .p 209 (.mv (.t 0)), []⟩, ⟨none, .p 210 (.mv (.t 5)), []⟩, ⟨none, .p 211 (.ia (.t 209) (.t 210) 24), []⟩, ⟨none, .p 212 (.fa (.t 211) 0 19), []⟩, ⟨none, .p 213 (.ld (.t 212) 0 1 false), []⟩, ⟨none, .p 214 (.mv (.t 1)), []⟩, ⟨none, .p 215 (.bin .neq (.t 213) (.t 214)), []⟩] [0, 1, 5, 215]) (.cond (.t 215) (.seq (.reg false [⟨none, .tk 4 (.k (.i .i64 (-1))), []⟩] [4]) .ret) .skip)) (.seq (.reg false [⟨none, .p 216 (.mv (.t 1)), []⟩, ⟨none, .p 217 (.bin .add (.t 216) (.k (.i .i64 1))), []⟩, ⟨none, .asg 1 (.t 217), []⟩] [0, 1, 5]) (.seq (.seq (.reg false [⟨none, .p 218 (.mv (.t 0)), []⟩, ⟨none, .p 219 (.mv (.t 5)), []⟩, ⟨none, .p 220 (.ia (.t 218) (.t 219) 24), []⟩, ⟨none, .p 221 (.fa (.t 220) 0 20), []⟩, ⟨none, .p 222 (.fa (.t 221) 0 0), []⟩, ⟨none, .p 223 (.ld (.t 222) 0 1 false), []⟩, ⟨none, .p 224 (.mv (.t 1)), []⟩, ⟨none, .p 225 (.bin .neq (.t 223) (.t 224)), []⟩] [0, 1, 5, 225]) (.cond (.t 225) (.seq (.reg false [⟨none, .tk 4 (.k (.i .i64 (-1))), []⟩] [4]) .ret) .skip)) (.seq (.reg false [⟨none, .p 226 (.mv (.t 1)), []⟩, ⟨none, .p 227 (.bin .add (.t 226) (.k (.i .i64 1))), []⟩, ⟨none, .asg 1 (.t 227), []⟩] [0, 1, 5]) (.seq (.reg false [⟨none, .p 228 (.mv (.t 0)), []⟩, ⟨none, .p 229 (.mv (.t 5)), []⟩, ⟨none, .p 230 (.ia (.t 228) (.t 229) 24), []⟩, ⟨none, .p 231 (.fa (.t 230) 0 20), []⟩, ⟨none, .p 232 (.fa (.t 231) 0 1), []⟩, ⟨none, .p 233 (.ld (.t 232) 0 1 false), []⟩, ⟨none, .p 234 (.mv (.t 1)), []⟩, ⟨none, .call (some 235) 31 [.rd (.t 233), .rd (.t 234)], []⟩, ⟨none, .asg 1 (.t 235), []⟩] [0, 1, 5]) (.seq (.seq (.reg false [⟨none, .p 236 (.mv (.t 1)), []⟩, ⟨none, .p 237 (.bin .lss (.t 236) (.k (.i .i64 0))), []⟩] [0, 1, 5, 237]) (.cond (.t 237) (.seq (.reg false [⟨none, .tk 4 (.k (.i .i64 (-1))), []⟩] [4]) .ret) .skip)) (.seq (.reg false [⟨none, .p 238 (.mv (.t 0)), []⟩, ⟨none, .p 239 (.mv (.t 5)), []⟩, ⟨none, .p 240 (.ia (.t 238) (.t 239) 24), []⟩, ⟨none, .p 241 (.fa (.t 240) 0 22), []⟩, ⟨none, .p 242 (.ld (.t 241) 0 1 false), []⟩, ⟨none, .p 243 (.mv (.t 1)), []⟩, ⟨none, .call (some 244) 77 [.rd (.t 242), .rd (.t 243)], []⟩, ⟨none, .asg 1 (.t 244), []⟩] [0, 1, 5]) (.seq (.seq (.reg false [⟨none, .p 245 (.mv (.t 1)), []⟩, ⟨none, .p 246 (.bin .lss (.t 245) (.k (.i .i64 0))), []⟩] [0, 1, 5, 246]) (.cond (.t 246) (.seq (.reg false [⟨none, .tk 4 (.k (.i .i64 (-1))), []⟩] [4]) .ret) .skip)) (.seq (.reg false [⟨none, .p 247 (.mv (.t 0)), []⟩, ⟨none, .p 248 (.mv (.t 5)), []⟩, ⟨none, .p 249 (.ia (.t 247) (.t 248) 24), []⟩, ⟨none, .p 250 (.fa (.t 249) 0 23), []⟩, ⟨none, .p 251 (.ld (.t 250) 0 1 false), []⟩, ⟨none, .p 252 (.mv (.t 1)), []⟩, ⟨none, .call (some 253) 56 [.rd (.t 251), .rd (.t 252)], []⟩, ⟨none, .asg 1 (.t 253), []⟩] [0, 1, 5]) (.seq (.reg false [⟨none, .p 254 (.mv (.t 1)), []⟩, ⟨none, .p 255 (.bin .lss (.t 254) (.k (.i .i64 0))), []⟩] [0, 1, 5, 255]) (.cond (.t 255) (.seq (.reg false [⟨none, .tk 4 (.k (.i .i64 (-1))), []⟩] [4]) .ret) .skip)))))))))))))))))))))))))))))))))))))))))))))))))) (.reg false [⟨none, .p 10 (.mv (.t 5)), []⟩, ⟨none, .p 11 (.bin .add (.t 10) (.k (.i .i64 1))), []⟩, ⟨none, .asg 5 (.t 11), []⟩] [0, 1, 5])))))) (.seq (.reg false [⟨none, .p 256 (.mv (.t 1)), []⟩, ⟨none, .tk 4 (.t 256), []⟩] [4]) .ret)))
theorem code_laws_heldDaemonS : ∃ c, Tryd.f54.body = some c ∧ cfit PP 257 c c_laws_heldDaemonS = true := by
  refine ⟨_, (rfl : Tryd.f54.body = some _), ?_⟩
  kernel_rfl
theorem t_heldDaemonS {G : Glob} (xs : List XDaemon) (k : Nat) (hk : k + cntL XDaemon.ct xs ≤ 1073741824) : FnD PP G 54 [.val false [.vw none [] (.sl .ow 24 ((mkL XDaemon.mrk XDaemon.ct k xs).map XDaemon.row))], .val false [.ow (.lit (.int .i64 k))]] [] []
    [.v false [.ow (.lit (.int .i64 (k + cntL XDaemon.ct xs : Nat)))]] [] [] := by
  refine fn_bd fun hbd => ?_
  have hx : (mkL XDaemon.mrk XDaemon.ct k xs).length ≤ 281474976710656 := hbd _ (by simp [hdsA, lenT, Cl.tree])
  rw [mkL_len] at hx
  clear hbd
  obtain ⟨cc, hb, hcf⟩ := code_laws_heldDaemonS
  refine fn_ok (fn := Tryd.f54) (specs := [.t 4]) (by kernel_rfl) hb (by show (257:Nat) ≤ 10000; omega) hcf (by kernel_rfl) (by show (2:Nat) ≤ 257; omega) (by simp) (by simp) rfl rfl (by simp) rfl ?_
  simp only [c_laws_heldDaemonS]
  push_cast
  refine cwp_loop (fun i : Nat => ⟨[(0, .val false [.vw none [] (.sl .ow 24 ((mkL XDaemon.mrk XDaemon.ct k xs).map XDaemon.row))]), (1, .val false [.ow (.lit (.int .i64 (k + cntL XDaemon.ct (xs.take i) : Nat)))]), (5, .val false [.ow (.lit (.int .i64 i))])], []⟩)
    (fun i => i ≤ xs.length) (fun i => xs.length - i) 0 rfl (by simp [cntL]; rfl) (by omega) ?_
  intro i hle
  have hlen : (mkL XDaemon.mrk XDaemon.ct k xs).length = xs.length := mkL_len _ _ _ _
  by_cases hi : i < xs.length
  · have hi2 : i < (mkL XDaemon.mrk XDaemon.ct k xs).length := by omega
    have hget : (mkL XDaemon.mrk XDaemon.ct k xs)[i] = XDaemon.mrk (k + cntL XDaemon.ct (xs.take i)) xs[i] := mkL_get _ _ _ _ _ hi _
    have hcl : k + cntL XDaemon.ct (xs.take (i + 1)) = (k + cntL XDaemon.ct (xs.take i)) + XDaemon.ct xs[i] := cnt_step XDaemon.ct xs k i hi
    have hKb : (k + cntL XDaemon.ct (xs.take i)) + XDaemon.ct xs[i] ≤ 1073741824 := Nat.le_trans (cnt_le XDaemon.ct xs k i hi) hk
    generalize k + cntL XDaemon.ct (xs.take i) = K at hcl hKb hget ⊢
    try simp only [XDaemon.ct] at hKb
    push_cast [getD_map hi2, hget, XDaemon.row, XDaemon.mrk]
    refine cnd_dec (fun hlt => ?_) (fun hge => by omega)
    push_cast [getD_map hi2, hget, XDaemon.row, XDaemon.mrk]
    try simp (disch := omega) only [wrap64]
    repeat (first | refine And.intro (by omega) ?_ | refine And.intro ⟨by omega, by omega⟩ ?_ | refine And.intro ⟨by omega, by omega, by omega⟩ ?_)
    try simp only [Int.natCast_add, Int.cast_ofNat_Int, Int.natCast_one]
    try refine cnd_dec (fun h => absurd rfl h) (fun _ => ?_)
    try push_cast [getD_map hi2, hget, XDaemon.row, XDaemon.mrk]
    try simp (disch := omega) only [wrap64]
    repeat (first | refine And.intro (by omega) ?_ | refine And.intro ⟨by omega, by omega⟩ ?_ | refine And.intro ⟨by omega, by omega, by omega⟩ ?_)
    try simp only [Int.natCast_add, Int.cast_ofNat_Int, Int.natCast_one]
    refine cnd_bool (fun h => by simp at h) (fun _ => ?_)
    try push_cast [getD_map hi2, hget, XDaemon.row, XDaemon.mrk]
    try simp (disch := omega) only [wrap64]
    repeat (first | refine And.intro (by omega) ?_ | refine And.intro ⟨by omega, by omega⟩ ?_ | refine And.intro ⟨by omega, by omega, by omega⟩ ?_)
    try simp only [Int.natCast_add, Int.cast_ofNat_Int, Int.natCast_one]
    try refine cnd_dec (fun h => absurd rfl h) (fun _ => ?_)
    try push_cast [getD_map hi2, hget, XDaemon.row, XDaemon.mrk]
    try simp (disch := omega) only [wrap64]
    repeat (first | refine And.intro (by omega) ?_ | refine And.intro ⟨by omega, by omega⟩ ?_ | refine And.intro ⟨by omega, by omega, by omega⟩ ?_)
    try simp only [Int.natCast_add, Int.cast_ofNat_Int, Int.natCast_one]
    try refine cnd_dec (fun h => absurd rfl h) (fun _ => ?_)
    try push_cast [getD_map hi2, hget, XDaemon.row, XDaemon.mrk]
    try simp (disch := omega) only [wrap64]
    repeat (first | refine And.intro (by omega) ?_ | refine And.intro ⟨by omega, by omega⟩ ?_ | refine And.intro ⟨by omega, by omega, by omega⟩ ?_)
    have hc := t_heldIntS (G := G) xs[i].Mate.Ring.Members (K + 1 + 1 + 1 + 1) (by omega)
    try simp only [Int.natCast_add, Int.cast_ofNat_Int, Int.natCast_one] at hc
    refine call_ok hc ?_
    clear hc
    push_cast [getD_map hi2, hget, XDaemon.row, XDaemon.mrk]
    refine cnd_dec (fun h => by omega) (fun _ => ?_)
    push_cast [getD_map hi2, hget, XDaemon.row, XDaemon.mrk]
    try simp (disch := omega) only [wrap64]
    repeat (first | refine And.intro (by omega) ?_ | refine And.intro ⟨by omega, by omega⟩ ?_ | refine And.intro ⟨by omega, by omega, by omega⟩ ?_)
    have hc := t_heldItemS (G := G) xs[i].Mate.Items (K + 1 + 1 + 1 + 1 + cntL (fun _ => 1) xs[i].Mate.Ring.Members) (by omega)
    try simp only [Int.natCast_add, Int.cast_ofNat_Int, Int.natCast_one] at hc
    refine call_ok hc ?_
    clear hc
    push_cast [getD_map hi2, hget, XDaemon.row, XDaemon.mrk]
    refine cnd_dec (fun h => by omega) (fun _ => ?_)
    push_cast [getD_map hi2, hget, XDaemon.row, XDaemon.mrk]
    try simp (disch := omega) only [wrap64]
    repeat (first | refine And.intro (by omega) ?_ | refine And.intro ⟨by omega, by omega⟩ ?_ | refine And.intro ⟨by omega, by omega, by omega⟩ ?_)
    have hc := t_heldIntS (G := G) xs[i].Mate.Level (K + 1 + 1 + 1 + 1 + cntL (fun _ => 1) xs[i].Mate.Ring.Members + cntL XItem.ct xs[i].Mate.Items) (by omega)
    try simp only [Int.natCast_add, Int.cast_ofNat_Int, Int.natCast_one] at hc
    refine call_ok hc ?_
    clear hc
    push_cast [getD_map hi2, hget, XDaemon.row, XDaemon.mrk]
    refine cnd_dec (fun h => by omega) (fun _ => ?_)
    push_cast [getD_map hi2, hget, XDaemon.row, XDaemon.mrk]
    try simp (disch := omega) only [wrap64]
    repeat (first | refine And.intro (by omega) ?_ | refine And.intro ⟨by omega, by omega⟩ ?_ | refine And.intro ⟨by omega, by omega, by omega⟩ ?_)
    have hc := t_heldStringS (G := G) xs[i].Mate.Texts (K + 1 + 1 + 1 + 1 + cntL (fun _ => 1) xs[i].Mate.Ring.Members + cntL XItem.ct xs[i].Mate.Items + cntL (fun _ => 1) xs[i].Mate.Level) (by omega)
    try simp only [Int.natCast_add, Int.cast_ofNat_Int, Int.natCast_one] at hc
    refine call_ok hc ?_
    clear hc
    push_cast [getD_map hi2, hget, XDaemon.row, XDaemon.mrk]
    refine cnd_dec (fun h => by omega) (fun _ => ?_)
    push_cast [getD_map hi2, hget, XDaemon.row, XDaemon.mrk]
    try simp (disch := omega) only [wrap64]
    repeat (first | refine And.intro (by omega) ?_ | refine And.intro ⟨by omega, by omega⟩ ?_ | refine And.intro ⟨by omega, by omega, by omega⟩ ?_)
    try simp only [Int.natCast_add, Int.cast_ofNat_Int, Int.natCast_one]
    try refine cnd_dec (fun h => absurd rfl h) (fun _ => ?_)
    try push_cast [getD_map hi2, hget, XDaemon.row, XDaemon.mrk]
    try simp (disch := omega) only [wrap64]
    repeat (first | refine And.intro (by omega) ?_ | refine And.intro ⟨by omega, by omega⟩ ?_ | refine And.intro ⟨by omega, by omega, by omega⟩ ?_)
    try simp only [Int.natCast_add, Int.cast_ofNat_Int, Int.natCast_one]
    try refine cnd_dec (fun h => absurd rfl h) (fun _ => ?_)
    try push_cast [getD_map hi2, hget, XDaemon.row, XDaemon.mrk]
    try simp (disch := omega) only [wrap64]
    repeat (first | refine And.intro (by omega) ?_ | refine And.intro ⟨by omega, by omega⟩ ?_ | refine And.intro ⟨by omega, by omega, by omega⟩ ?_)
    try simp only [Int.natCast_add, Int.cast_ofNat_Int, Int.natCast_one]
    try refine cnd_dec (fun h => absurd rfl h) (fun _ => ?_)
    try push_cast [getD_map hi2, hget, XDaemon.row, XDaemon.mrk]
    try simp (disch := omega) only [wrap64]
    repeat (first | refine And.intro (by omega) ?_ | refine And.intro ⟨by omega, by omega⟩ ?_ | refine And.intro ⟨by omega, by omega, by omega⟩ ?_)
    try simp only [Int.natCast_add, Int.cast_ofNat_Int, Int.natCast_one]
    try refine cnd_dec (fun h => absurd rfl h) (fun _ => ?_)
    try push_cast [getD_map hi2, hget, XDaemon.row, XDaemon.mrk]
    try simp (disch := omega) only [wrap64]
    repeat (first | refine And.intro (by omega) ?_ | refine And.intro ⟨by omega, by omega⟩ ?_ | refine And.intro ⟨by omega, by omega, by omega⟩ ?_)
    try simp only [Int.natCast_add, Int.cast_ofNat_Int, Int.natCast_one]
    try refine cnd_dec (fun h => absurd rfl h) (fun _ => ?_)
    try push_cast [getD_map hi2, hget, XDaemon.row, XDaemon.mrk]
    try simp (disch := omega) only [wrap64]
    repeat (first | refine And.intro (by omega) ?_ | refine And.intro ⟨by omega, by omega⟩ ?_ | refine And.intro ⟨by omega, by omega, by omega⟩ ?_)
    try simp only [Int.natCast_add, Int.cast_ofNat_Int, Int.natCast_one]
    try refine cnd_dec (fun h => absurd rfl h) (fun _ => ?_)
    try push_cast [getD_map hi2, hget, XDaemon.row, XDaemon.mrk]
    try simp (disch := omega) only [wrap64]
    repeat (first | refine And.intro (by omega) ?_ | refine And.intro ⟨by omega, by omega⟩ ?_ | refine And.intro ⟨by omega, by omega, by omega⟩ ?_)
    try simp only [Int.natCast_add, Int.cast_ofNat_Int, Int.natCast_one]
    try refine cnd_dec (fun h => absurd rfl h) (fun _ => ?_)
    try push_cast [getD_map hi2, hget, XDaemon.row, XDaemon.mrk]
    try simp (disch := omega) only [wrap64]
    repeat (first | refine And.intro (by omega) ?_ | refine And.intro ⟨by omega, by omega⟩ ?_ | refine And.intro ⟨by omega, by omega, by omega⟩ ?_)
    try simp only [Int.natCast_add, Int.cast_ofNat_Int, Int.natCast_one]
    try refine cnd_dec (fun h => absurd rfl h) (fun _ => ?_)
    try push_cast [getD_map hi2, hget, XDaemon.row, XDaemon.mrk]
    try simp (disch := omega) only [wrap64]
    repeat (first | refine And.intro (by omega) ?_ | refine And.intro ⟨by omega, by omega⟩ ?_ | refine And.intro ⟨by omega, by omega, by omega⟩ ?_)
    try simp only [Int.natCast_add, Int.cast_ofNat_Int, Int.natCast_one]
    try refine cnd_dec (fun h => absurd rfl h) (fun _ => ?_)
    try push_cast [getD_map hi2, hget, XDaemon.row, XDaemon.mrk]
    try simp (disch := omega) only [wrap64]
    repeat (first | refine And.intro (by omega) ?_ | refine And.intro ⟨by omega, by omega⟩ ?_ | refine And.intro ⟨by omega, by omega, by omega⟩ ?_)
    have hc := t_heldIntS (G := G) xs[i].Mate.Last.Wants (K + 1 + 1 + 1 + 1 + cntL (fun _ => 1) xs[i].Mate.Ring.Members + cntL XItem.ct xs[i].Mate.Items + cntL (fun _ => 1) xs[i].Mate.Level + cntL (fun _ => 1) xs[i].Mate.Texts + 1 + 1 + 1 + 1 + 1 + 1 + 1 + 1 + 1) (by omega)
    try simp only [Int.natCast_add, Int.cast_ofNat_Int, Int.natCast_one] at hc
    refine call_ok hc ?_
    clear hc
    push_cast [getD_map hi2, hget, XDaemon.row, XDaemon.mrk]
    refine cnd_dec (fun h => by omega) (fun _ => ?_)
    push_cast [getD_map hi2, hget, XDaemon.row, XDaemon.mrk]
    try simp (disch := omega) only [wrap64]
    repeat (first | refine And.intro (by omega) ?_ | refine And.intro ⟨by omega, by omega⟩ ?_ | refine And.intro ⟨by omega, by omega, by omega⟩ ?_)
    try simp only [Int.natCast_add, Int.cast_ofNat_Int, Int.natCast_one]
    try refine cnd_dec (fun h => absurd rfl h) (fun _ => ?_)
    try push_cast [getD_map hi2, hget, XDaemon.row, XDaemon.mrk]
    try simp (disch := omega) only [wrap64]
    repeat (first | refine And.intro (by omega) ?_ | refine And.intro ⟨by omega, by omega⟩ ?_ | refine And.intro ⟨by omega, by omega, by omega⟩ ?_)
    try simp only [Int.natCast_add, Int.cast_ofNat_Int, Int.natCast_one]
    try refine cnd_dec (fun h => absurd rfl h) (fun _ => ?_)
    try push_cast [getD_map hi2, hget, XDaemon.row, XDaemon.mrk]
    try simp (disch := omega) only [wrap64]
    repeat (first | refine And.intro (by omega) ?_ | refine And.intro ⟨by omega, by omega⟩ ?_ | refine And.intro ⟨by omega, by omega, by omega⟩ ?_)
    try simp only [Int.natCast_add, Int.cast_ofNat_Int, Int.natCast_one]
    try refine cnd_dec (fun h => absurd rfl h) (fun _ => ?_)
    try push_cast [getD_map hi2, hget, XDaemon.row, XDaemon.mrk]
    try simp (disch := omega) only [wrap64]
    repeat (first | refine And.intro (by omega) ?_ | refine And.intro ⟨by omega, by omega⟩ ?_ | refine And.intro ⟨by omega, by omega, by omega⟩ ?_)
    have hc := t_heldIntS (G := G) xs[i].Joining.Members (K + 1 + 1 + 1 + 1 + cntL (fun _ => 1) xs[i].Mate.Ring.Members + cntL XItem.ct xs[i].Mate.Items + cntL (fun _ => 1) xs[i].Mate.Level + cntL (fun _ => 1) xs[i].Mate.Texts + 1 + 1 + 1 + 1 + 1 + 1 + 1 + 1 + 1 + cntL (fun _ => 1) xs[i].Mate.Last.Wants + 1 + 1 + 1) (by omega)
    try simp only [Int.natCast_add, Int.cast_ofNat_Int, Int.natCast_one] at hc
    refine call_ok hc ?_
    clear hc
    push_cast [getD_map hi2, hget, XDaemon.row, XDaemon.mrk]
    refine cnd_dec (fun h => by omega) (fun _ => ?_)
    push_cast [getD_map hi2, hget, XDaemon.row, XDaemon.mrk]
    try simp (disch := omega) only [wrap64]
    repeat (first | refine And.intro (by omega) ?_ | refine And.intro ⟨by omega, by omega⟩ ?_ | refine And.intro ⟨by omega, by omega, by omega⟩ ?_)
    have hc := t_heldBundleS (G := G) xs[i].Bundles (K + 1 + 1 + 1 + 1 + cntL (fun _ => 1) xs[i].Mate.Ring.Members + cntL XItem.ct xs[i].Mate.Items + cntL (fun _ => 1) xs[i].Mate.Level + cntL (fun _ => 1) xs[i].Mate.Texts + 1 + 1 + 1 + 1 + 1 + 1 + 1 + 1 + 1 + cntL (fun _ => 1) xs[i].Mate.Last.Wants + 1 + 1 + 1 + cntL (fun _ => 1) xs[i].Joining.Members) (by omega)
    try simp only [Int.natCast_add, Int.cast_ofNat_Int, Int.natCast_one] at hc
    refine call_ok hc ?_
    clear hc
    push_cast [getD_map hi2, hget, XDaemon.row, XDaemon.mrk]
    refine cnd_dec (fun h => by omega) (fun _ => ?_)
    push_cast [getD_map hi2, hget, XDaemon.row, XDaemon.mrk]
    try simp (disch := omega) only [wrap64]
    repeat (first | refine And.intro (by omega) ?_ | refine And.intro ⟨by omega, by omega⟩ ?_ | refine And.intro ⟨by omega, by omega, by omega⟩ ?_)
    have hc := t_heldEventS (G := G) xs[i].Log (K + 1 + 1 + 1 + 1 + cntL (fun _ => 1) xs[i].Mate.Ring.Members + cntL XItem.ct xs[i].Mate.Items + cntL (fun _ => 1) xs[i].Mate.Level + cntL (fun _ => 1) xs[i].Mate.Texts + 1 + 1 + 1 + 1 + 1 + 1 + 1 + 1 + 1 + cntL (fun _ => 1) xs[i].Mate.Last.Wants + 1 + 1 + 1 + cntL (fun _ => 1) xs[i].Joining.Members + cntL XBundle.ct xs[i].Bundles) (by omega)
    try simp only [Int.natCast_add, Int.cast_ofNat_Int, Int.natCast_one] at hc
    refine call_ok hc ?_
    clear hc
    push_cast [getD_map hi2, hget, XDaemon.row, XDaemon.mrk]
    refine cnd_dec (fun h => by omega) (fun _ => ?_)
    push_cast [getD_map hi2, hget, XDaemon.row, XDaemon.mrk]
    try simp (disch := omega) only [wrap64]
    refine ⟨i + 1, ?_, by omega, by omega⟩
    have hcl2 := congrArg (fun x : Nat => (x : Int)) hcl
    try simp only [XDaemon.ct, Int.natCast_add, Int.cast_ofNat_Int, Int.natCast_one] at hcl2
    try simp only [Int.natCast_add, Int.cast_ofNat_Int, Int.natCast_one]
    rw [hcl2]
    try simp only [Int.add_assoc]
  · have hi : i = xs.length := by omega
    subst hi
    rw [List.take_length]
    push_cast
    refine cnd_dec (fun hlt => ?_) (fun hge => ?_)
    · omega
    push_cast

noncomputable def c_laws_heldLetterS : ACode := (.seq (.reg false [⟨none, .tk 4 (.k (.i .i64 0)), []⟩] [0, 1]) (.seq (.seq (.reg false [⟨none, .asg 5 (.k (.i .i64 0)), []⟩] [0, 1, 5]) (.block 0 (.loop [0, 1, 5] (.seq (.seq (.reg false [⟨none, .p 6 (.mv (.t 5)), []⟩, ⟨none, .p 7 (.mv (.t 0)), []⟩, ⟨none, .p 8 (.len false (.t 7)), []⟩, ⟨none, .p 9 (.bin .lss (.t 6) (.t 8)), []⟩] [0, 1, 5, 9]) (.cond (.t 9) .skip (.exit 0 [1]))) (.seq (.block 1 (.seq (.seq (.reg false [⟨none, .p 12 (.mv (.t 0)), []⟩, ⟨none, .p 13 (.mv (.t 5)), []⟩, ⟨none, .p 14 (.ia (.t 12) (.t 13) 17), []⟩, ⟨none, .p 15 (.fa (.t 14) 0 0), []⟩, ⟨none, .p 16 (.ld (.t 15) 0 1 false), []⟩, ⟨none, .p 17 (.mv (.t 1)), []⟩, ⟨none, .p 18 (.bin .neq (.t 16) (.t 17)), []⟩] [0, 1, 5, 18]) (.cond (.t 18) (.seq (.reg false [⟨none, .tk 4 (.k (.i .i64 (-1))), []⟩] [4]) .ret) .skip)) (.seq (.reg false [⟨none, .p 19 (.mv (.t 1)), []⟩, ⟨none, .p 20 (.bin .add (.t 19) (.k (.i .i64 1))), []⟩, ⟨none, .asg 1 (.t 20), []⟩] [0, 1, 5]) (.seq (.seq (.reg false [⟨none, .p 21 (.mv (.t 0)), []⟩, ⟨none, .p 22 (.mv (.t 5)), []⟩, ⟨none, .p 23 (.ia (.t 21) (.t 22) 17), []⟩, ⟨none, .p 24 (.fa (.t 23) 0 1), []⟩, ⟨none, .p 25 (.ld (.t 24) 0 1 false), []⟩, ⟨none, .p 26 (.mv (.t 1)), []⟩, ⟨none, .p 27 (.bin .neq (.t 25) (.t 26)), []⟩] [0, 1, 5, 27]) (.cond (.t 27) (.seq (.reg false [⟨none, .tk 4 (.k (.i .i64 (-1))), []⟩] [4]) .ret) .skip)) (.seq (.reg false [⟨none, .p 28 (.mv (.t 1)), []⟩, ⟨none, .p 29 (.bin .add (.t 28) (.k (.i .i64 1))), []⟩, ⟨none, .asg 1 (.t 29), []⟩] [0, 1, 5]) (.seq (.seq (.reg false [⟨none, .p 30 (.mv (.t 0)), []⟩, ⟨none, .p 31 (.mv (.t 5)), []⟩, ⟨none, .p 32 (.ia (.t 30) (.t 31) 17), []⟩, ⟨none, .p 33 (.fa (.t 32) 0 2), []⟩, ⟨none, .p 34 (.ld (.t 33) 0 1 false), []⟩, ⟨none, .p 35 (.mv (.t 1)), []⟩, ⟨none, .p 36 (.bin .neq (.t 34) (.t 35)), []⟩] [0, 1, 5, 36]) (.cond (.t 36) (.seq (.reg false [⟨none, .tk 4 (.k (.i .i64 (-1))), []⟩] [4]) .ret) .skip)) (.seq (.reg false [⟨none, .p 37 (.mv (.t 1)), []⟩, ⟨none, .p 38 (.bin .add (.t 37) (.k (.i .i64 1))), []⟩, ⟨none, .asg 1 (.t 38), []⟩] [0, 1, 5]) (.seq (.seq (.reg false [⟨none, .p 39 (.mv (.t 0)), []⟩, ⟨none, .p 40 (.mv (.t 5)), []⟩, ⟨none, .p 41 (.ia (.t 39) (.t 40) 17), []⟩, ⟨none, .p 42 (.fa (.t 41) 0 3), []⟩, ⟨none, .p 43 (.fa (.t 42) 0 0), []⟩, ⟨none, .p 44 (.ld (.t 43) 0 1 false), []⟩, ⟨none, .p 45 (.mv (.t 1)), []⟩, ⟨none, .p 46 (.bin .neq (.t 44) (.t 45)), []⟩] [0, 1, 5, 46]) (.cond (.t 46) (.seq (.reg false [⟨none, .tk 4 (.k (.i .i64 (-1))), []⟩] [4]) .ret) .skip)) (.seq (.reg false [⟨none, .p 47 (.mv (.t 1)), []⟩, ⟨none, .p 48 (.bin .add (.t 47) (.k (.i .i64 1))), []⟩, ⟨none, .asg 1 (.t 48), []⟩] [0, 1, 5]) (.seq (.seq (.reg false [⟨none, .p 49 (.mv (.t 0)), []⟩, ⟨none, .p 50 (.mv (.t 5)), []⟩, ⟨none, .p 51 (.ia (.t 49) (.t 50) 17), []⟩, ⟨none, .p 52 (.fa (.t 51) 0 3), []⟩, ⟨none, .p 53 (.fa (.t 52) 0 1), []⟩, ⟨none, .p 54 (.ld (.t 53) 0 1 false), []⟩, ⟨none, .p 55 (.mv (.t 1)), []⟩, ⟨none, .p 56 (.bin .neq (.t 54) (.t 55)), []⟩] [0, 1, 5, 56]) (.cond (.t 56) (.seq (.reg false [⟨none, .tk 4 (.k (.i .i64 (-1))), []⟩] [4]) .ret) .skip)) (.seq (.reg false [⟨none, .p 57 (.mv (.t 1)), []⟩, ⟨none, .p 58 (.bin .add (.t 57) (.k (.i .i64 1))), []⟩, ⟨none, .asg 1 (.t 58), []⟩] [0, 1, 5]) (.seq (.seq (.reg false [⟨none, .p 59 (.mv (.t 0)), []⟩, ⟨none, .p 60 (.mv (.t 5)), []⟩, ⟨none, .p 61 (.ia (.t 59) (.t 60) 17), []⟩, ⟨none, .p 62 (.fa (.t 61) 0 3), []⟩, ⟨none, .p 63 (.fa (.t 62) 0 2), []⟩, ⟨none, .p 64 (.ld (.t 63) 0 1 false), []⟩, ⟨none, .p 65 (.mv (.t 1)), []⟩, ⟨none, .p 66 (.bin .neq (.t 64) (.t 65)), []⟩] [0, 1, 5, 66]) (.cond (.t 66) (.seq (.reg false [⟨none, .tk 4 (.k (.i .i64 (-1))), []⟩] [4]) .ret) .skip)) (.seq (.reg false [⟨none, .p 67 (.mv (.t 1)), []⟩, ⟨none, .p 68 (.bin .add (.t 67) (.k (.i .i64 1))), []⟩, ⟨none, .asg 1 (.t 68), []⟩] [0, 1, 5]) (.seq (.seq (.reg true [⟨none, .p 69 (.mv (.t 0)), []⟩, ⟨none, .p 70 (.mv (.t 5)), []⟩, ⟨none, .p 71 (.ia (.t 69) (.t 70) 17), [0, 1]⟩, ⟨none, .p 72 (.fa (.t 71) 0 3), [2]⟩, ⟨none, .p 73 (.fa (.t 72) 0 3), [3]⟩, ⟨none, .p 74 (.ld (.t 73) 0 1 false), [4]⟩, ⟨none, .p 75 (.mv (.t 1)), []⟩, ⟨none, .call (some 76) 50 [.rd (.t 75)], [6]⟩, ⟨none, .p 77 (.bin .neq (.t 74) (.t 76)), [5, 7]⟩] [0, 1, 5, 77]) (.cond (.t 77) (.seq (.reg false [⟨none, .tk 4 (.k (.i .i64 (-1))), []⟩] [4]) .ret) .skip)) (.seq (.reg false [⟨none, .p 78 (.mv (.t 1)), []⟩, ⟨none, .p 79 (.bin .add (.t 78) (.k (.i .i64 1))), []⟩, ⟨none, .asg 1 (.t 79), []⟩] [0, 1, 5]) (.seq (.seq (.reg false [⟨none, .p 80 (.mv (.t 0)), []⟩, ⟨none, .p 81 (.mv (.t 5)), []⟩, ⟨none, .p 82 (.ia (.t 80) (.t 81) 17), []⟩, ⟨none, .p 83 (.fa (.t 82) 0 7), []⟩, ⟨none, .p 84 (.fa (.t 83) 0 0), []⟩, ⟨none, .p 85 (.ld (.t 84) 0 1 false), []⟩, ⟨none, .p 86 (.mv (.t 1)), []⟩, ⟨none, .p 87 (.bin .neq (.t 85) (.t 86)), []⟩] [0, 1, 5, 87]) (.cond (.t 87) (.seq (.reg false [⟨none, .tk 4 (.k (.i .i64 (-1))), []⟩] [4]) .ret) .skip)) (.seq (.reg false [⟨none, .p 88 (.mv (.t 1)), []⟩, ⟨none, .p 89 (.bin .add (.t 88) (.k (.i .i64 1))), []⟩, ⟨none, .asg 1 (.t 89), []⟩] [0, 1, 5]) (.seq (.seq (.reg false [⟨none, .p 90 (.mv (.t 0)), []⟩, ⟨none, .p 91 (.mv (.t 5)), []⟩, ⟨none, .p 92 (.ia (.t 90) (.t 91) 17), []⟩, ⟨none, .p 93 (.fa (.t 92) 0 7), []⟩, ⟨none, .p 94 (.fa (.t 93) 0 1), []⟩, ⟨none, .p 95 (.ld (.t 94) 0 1 false), []⟩, ⟨none, .p 96 (.mv (.t 1)), []⟩, ⟨none, .p 97 (.bin .neq (.t 95) (.t 96)), []⟩] [0, 1, 5, 97]) (.cond (.t 97) (.seq (.reg false [⟨none, .tk 4 (.k (.i .i64 (-1))), []⟩] [4]) .ret) .skip)) (.seq (.reg false [⟨none, .p 98 (.mv (.t 1)), []⟩, ⟨none, .p 99 (.bin .add (.t 98) (.k (.i .i64 1))), []⟩, ⟨none, .asg 1 (.t 99), []⟩] [0, 1, 5]) (.seq (.seq (.reg false [⟨none, .p 100 (.mv (.t 0)), []⟩, ⟨none, .p 101 (.mv (.t 5)), []⟩, ⟨none, .p 102 (.ia (.t 100) (.t 101) 17), []⟩, ⟨none, .p 103 (.fa (.t 102) 0 7), []⟩, ⟨none, .p 104 (.fa (.t 103) 0 2), []⟩, ⟨none, .p 105 (.ld (.t 104) 0 1 false), []⟩, ⟨none, .p 106 (.mv (.t 1)), []⟩, ⟨none, .p 107 (.bin .neq (.t 105) (.t 106)), []⟩] [0, 1, 5, 107]) (.cond (.t 107) (.seq (.reg false [⟨none, .tk 4 (.k (.i .i64 (-1))), []⟩] [4]) .ret) .skip)) (.seq (.reg false [⟨none, .p 108 (.mv (.t 1)), []⟩, ⟨none, .p 109 (.bin .add (.t 108) (.k (.i .i64 1))), []⟩, ⟨none, .asg 1 (.t 109), []⟩] [0, 1, 5]) (.seq (.seq (.reg false [⟨none, .p 110 (.mv (.t 0)), []⟩, ⟨none, .p 111 (.mv (.t 5)), []⟩, ⟨none, .p 112 (.ia (.t 110) (.t 111) 17), []⟩, ⟨none, .p 113 (.fa (.t 112) 0 7), []⟩, ⟨none, .p 114 (.fa (.t 113) 0 3), []⟩, ⟨none, .p 115 (.ld (.t 114) 0 1 false), []⟩, ⟨none, .p 116 (.mv (.t 1)), []⟩, ⟨none, .p 117 (.bin .neq (.t 115) (.t 116)), []⟩] [0, 1, 5, 117]) (.cond (.t 117) (.seq (.reg false [⟨none, .tk 4 (.k (.i .i64 (-1))), []⟩] [4]) .ret) .skip)) (.seq (.reg false [⟨none, .p 118 (.mv (.t 1)), []⟩, ⟨none, .p 119 (.bin .add (.t 118) (.k (.i .i64 1))), []⟩, ⟨none, .asg 1 (.t 119), []⟩] [0, 1, 5]) (.seq (.seq (.reg false [⟨none, .p 120 (.mv (.t 0)), []⟩, ⟨none, .p 121 (.mv (.t 5)), []⟩, ⟨none, .p 122 (.ia (.t 120) (.t 121) 17), []⟩, ⟨none, .p 123 (.fa (.t 122) 0 7), []⟩, ⟨none, .p 124 (.fa (.t 123) 0 4), []⟩, ⟨none, .p 125 (.ld (.t 124) 0 1 false), []⟩, ⟨none, .p 126 (.mv (.t 1)), []⟩, ⟨none, .p 127 (.bin .neq (.t 125) (.t 126)), []⟩] [0, 1, 5, 127]) (.cond (.t 127) (.seq (.reg false [⟨none, .tk 4 (.k (.i .i64 (-1))), []⟩] [4]) .ret) .skip)) (.seq (.reg false [⟨none, .p 128 (.mv (.t 1)), []⟩, ⟨none, .p 129 (.bin .add (.t 128) (.k (.i .i64 1))), []⟩, ⟨none, .asg 1 (.t 129), []⟩] [0, 1, 5]) (.seq (.reg false [⟨none, .p 130 (.mv (.t 0)), []⟩, ⟨none, .p 131 (.mv (.t 5)), []⟩, ⟨none, .p 132 (.ia (.t 130) (.t 131) 17), []⟩, ⟨none, .p 133 (.fa (.t 132) 0 7), []⟩, ⟨none, .p 134 (.fa (.t 133) 0 5), []⟩, ⟨none, .p 135 (.ld (.t 134) 0 1 false), []⟩, ⟨none, .p 136 (.mv (.t 1)), []⟩, ⟨none, .call (some 137) 31 [.rd (.t 135), .rd (.t 136)], []⟩, ⟨none, .asg 1 (.t 137), []⟩] [0, 1, 5]) (.seq (.seq (.reg false [⟨none, .p 138 (.mv (.t 1)), []⟩, ⟨none, .p 139 (.bin .lss (.t 138) (.k (.i .i64 0))), []⟩] [0, 1, 5, 139]) (.cond (.t 139) (.seq (.reg false [⟨none, .tk 4 (.k (.i .i64 (-1))), []⟩] [4]) .ret) .skip)) (.seq (.seq (.reg false [⟨none, .p 140 (.mv (.t 0)), []⟩, ⟨none, .p 141 (.mv (.t 5)), []⟩, ⟨none, .p 142 (.ia (.t 140) (.t 141) 17), []⟩, ⟨none, .p 143 (.fa (.t 142) 0 13), []⟩, ⟨none, .p 144 (.fa (.t 143) 0 0), []⟩, ⟨none, .p 145 (.ld (.t 144) 0 1 false), []⟩, ⟨none, .p 146 (.mv (.t 1)), []⟩, ⟨none, .p 147 (.bin .neq (.t 145) (.t 146)), []⟩] [0, 1, 5, 147]) (.cond (.t 147) (.seq (.reg false [⟨none, .tk 4 (.k (.i .i64 (-1))), []⟩] [4]) .ret) .skip)) (.seq (.reg false [⟨none, .p 148 (.mv (.t 1)), []⟩, ⟨none, .p 149 (.bin .add (.t 148) (.k (.i .i64 1))), []⟩, ⟨none, .asg 1 (.t 149), []⟩] [0, 1, 5]) (.seq (.seq (.reg false [⟨none, .p 150 (.mv (.t 0)), []⟩, ⟨none, .p 151 (.mv (.t 5)), []⟩, ⟨none, .p 152 (.ia (.t 150) (.t 151) 17), []⟩, ⟨none, .p 153 (.fa (.t 152) 0 13), []⟩, ⟨none, .p 154 (.fa (.t 153) 0 1), []⟩, ⟨none, .p 155 (.ld (.t 154) 0 1 false), []⟩, ⟨none, .p 156 (.mv (.t 1)), []⟩, ⟨none, .p 157 (.bin .neq (.t 155) (.t 156)), []⟩] [0, 1, 5, 157]) (.cond (.t 157) (.seq (.reg false [⟨none, .tk 4 (.k (.i .i64 (-1))), []⟩] [4]) .ret) .skip)) (.seq (.reg false [⟨none, .p 158 (.mv (.t 1)), []⟩, ⟨none, .p 159 (.bin .add (.t 158) (.k (.i .i64 1))), []⟩, ⟨none, .asg 1 (.t 159), []⟩] [0, 1, 5]) (.seq (.seq (.reg false [⟨none, .p 160 (.mv (.t 0)), []⟩, ⟨none, .p 161 (.mv (.t 5)), []⟩, ⟨none, .p 162 (.ia (.t 160) (.t 161) 17), []⟩, ⟨none, .p 163 (.fa (.t 162) 0 13), []⟩, ⟨none, .p 164 (.fa (.t 163) 0 2), []⟩, ⟨none, .p 165 (.ld (.t 164) 0 1 false), []⟩, ⟨none, .p 166 (.mv (.t 1)), []⟩, ⟨none, .p 167 (.bin .neq (.t 165) (.t 166)), []⟩] [0, 1, 5, 167]) (.cond (.t 167) (.seq (.reg false [⟨none, .tk 4 (.k (.i .i64 (-1))), []⟩] [4]) .ret) .skip)) (.seq (.reg false [⟨none, .p 168 (.mv (.t 1)), []⟩, ⟨none, .p 169 (.bin .add (.t 168) (.k (.i .i64 1))), []⟩, ⟨none, .asg 1 (.t 169), []⟩] [0, 1, 5]) (.seq (.reg false [⟨none, .p 170 (.mv (.t 0)), []⟩, ⟨none, .p 171 (.mv (.t 5)), []⟩, ⟨none, .p 172 (.ia (.t 170) (.t 171) 17), []⟩, ⟨none, .p 173 (.fa (.t 172) 0 13), []⟩, ⟨none, .p 174 (.fa (.t 173) 0 3), []⟩, ⟨none, .p 175 (.ld (.t 174) 0 1 false), []⟩, ⟨none, .p 176 (.mv (.t 1)), []⟩, ⟨none, .call (some 177) 76 [.rd (.t 175), .rd (.t 176)], []⟩, ⟨none, .asg 1 (.t 177), []⟩] [0, 1, 5]) (.seq (.reg false [⟨none, .p 178 (.mv (.t 1)), []⟩, ⟨none, .p 179 (.bin .lss (.t 178) (.k (.i .i64 0))), []⟩] [0, 1, 5, 179]) (.cond (.t 179) (.seq (.reg false [⟨none, .tk 4 (.k (.i .i64 (-1))), []⟩] [4]) .ret) .skip)))))))))))))))))))))))))))))))))))) (.reg false [⟨none, .p 10 (.mv (.t 5)), []⟩, ⟨none, .p 11 (.bin .add (.t 10) (.k (.i .i64 1))), []⟩, ⟨none, .asg 5 (.t 11), []⟩] [0, 1, 5])))))) (.seq (.reg false [⟨none, .p 180 (.mv (.t 1)), []⟩, ⟨none, .tk 4 (.t 180), []⟩] [4]) .ret)))
theorem code_laws_heldLetterS : ∃ c, Tryd.f55.body = some c ∧ cfit PP 181 c c_laws_heldLetterS = true := by
  refine ⟨_, (rfl : Tryd.f55.body = some _), ?_⟩
  kernel_rfl
theorem t_heldLetterS {G : Glob} (xs : List XLetter) (k : Nat) (hk : k + cntL XLetter.ct xs ≤ 1073741824) : FnD PP G 55 [.val false [.vw none [] (.sl .ow 17 ((mkL XLetter.mrk XLetter.ct k xs).map XLetter.row))], .val false [.ow (.lit (.int .i64 k))]] [] []
    [.v false [.ow (.lit (.int .i64 (k + cntL XLetter.ct xs : Nat)))]] [] [] := by
  refine fn_bd fun hbd => ?_
  have hx : (mkL XLetter.mrk XLetter.ct k xs).length ≤ 281474976710656 := hbd _ (by simp [hdsA, lenT, Cl.tree])
  rw [mkL_len] at hx
  clear hbd
  obtain ⟨cc, hb, hcf⟩ := code_laws_heldLetterS
  refine fn_ok (fn := Tryd.f55) (specs := [.t 4]) (by kernel_rfl) hb (by show (181:Nat) ≤ 10000; omega) hcf (by kernel_rfl) (by show (2:Nat) ≤ 181; omega) (by simp) (by simp) rfl rfl (by simp) rfl ?_
  simp only [c_laws_heldLetterS]
  push_cast
  refine cwp_loop (fun i : Nat => ⟨[(0, .val false [.vw none [] (.sl .ow 17 ((mkL XLetter.mrk XLetter.ct k xs).map XLetter.row))]), (1, .val false [.ow (.lit (.int .i64 (k + cntL XLetter.ct (xs.take i) : Nat)))]), (5, .val false [.ow (.lit (.int .i64 i))])], []⟩)
    (fun i => i ≤ xs.length) (fun i => xs.length - i) 0 rfl (by simp [cntL]; rfl) (by omega) ?_
  intro i hle
  have hlen : (mkL XLetter.mrk XLetter.ct k xs).length = xs.length := mkL_len _ _ _ _
  by_cases hi : i < xs.length
  · have hi2 : i < (mkL XLetter.mrk XLetter.ct k xs).length := by omega
    have hget : (mkL XLetter.mrk XLetter.ct k xs)[i] = XLetter.mrk (k + cntL XLetter.ct (xs.take i)) xs[i] := mkL_get _ _ _ _ _ hi _
    have hcl : k + cntL XLetter.ct (xs.take (i + 1)) = (k + cntL XLetter.ct (xs.take i)) + XLetter.ct xs[i] := cnt_step XLetter.ct xs k i hi
    have hKb : (k + cntL XLetter.ct (xs.take i)) + XLetter.ct xs[i] ≤ 1073741824 := Nat.le_trans (cnt_le XLetter.ct xs k i hi) hk
    generalize k + cntL XLetter.ct (xs.take i) = K at hcl hKb hget ⊢
    try simp only [XLetter.ct] at hKb
    push_cast [getD_map hi2, hget, XLetter.row, XLetter.mrk]
    refine cnd_dec (fun hlt => ?_) (fun hge => by omega)
    push_cast [getD_map hi2, hget, XLetter.row, XLetter.mrk]
    try simp (disch := omega) only [wrap64]
    repeat (first | refine And.intro (by omega) ?_ | refine And.intro ⟨by omega, by omega⟩ ?_ | refine And.intro ⟨by omega, by omega, by omega⟩ ?_)
    try simp only [Int.natCast_add, Int.cast_ofNat_Int, Int.natCast_one]
    try refine cnd_dec (fun h => absurd rfl h) (fun _ => ?_)
    try push_cast [getD_map hi2, hget, XLetter.row, XLetter.mrk]
    try simp (disch := omega) only [wrap64]
    repeat (first | refine And.intro (by omega) ?_ | refine And.intro ⟨by omega, by omega⟩ ?_ | refine And.intro ⟨by omega, by omega, by omega⟩ ?_)
    try simp only [Int.natCast_add, Int.cast_ofNat_Int, Int.natCast_one]
    try refine cnd_dec (fun h => absurd rfl h) (fun _ => ?_)
    try push_cast [getD_map hi2, hget, XLetter.row, XLetter.mrk]
    try simp (disch := omega) only [wrap64]
    repeat (first | refine And.intro (by omega) ?_ | refine And.intro ⟨by omega, by omega⟩ ?_ | refine And.intro ⟨by omega, by omega, by omega⟩ ?_)
    try simp only [Int.natCast_add, Int.cast_ofNat_Int, Int.natCast_one]
    try refine cnd_dec (fun h => absurd rfl h) (fun _ => ?_)
    try push_cast [getD_map hi2, hget, XLetter.row, XLetter.mrk]
    try simp (disch := omega) only [wrap64]
    repeat (first | refine And.intro (by omega) ?_ | refine And.intro ⟨by omega, by omega⟩ ?_ | refine And.intro ⟨by omega, by omega, by omega⟩ ?_)
    try simp only [Int.natCast_add, Int.cast_ofNat_Int, Int.natCast_one]
    try refine cnd_dec (fun h => absurd rfl h) (fun _ => ?_)
    try push_cast [getD_map hi2, hget, XLetter.row, XLetter.mrk]
    try simp (disch := omega) only [wrap64]
    repeat (first | refine And.intro (by omega) ?_ | refine And.intro ⟨by omega, by omega⟩ ?_ | refine And.intro ⟨by omega, by omega, by omega⟩ ?_)
    try simp only [Int.natCast_add, Int.cast_ofNat_Int, Int.natCast_one]
    try refine cnd_dec (fun h => absurd rfl h) (fun _ => ?_)
    try push_cast [getD_map hi2, hget, XLetter.row, XLetter.mrk]
    try simp (disch := omega) only [wrap64]
    repeat (first | refine And.intro (by omega) ?_ | refine And.intro ⟨by omega, by omega⟩ ?_ | refine And.intro ⟨by omega, by omega, by omega⟩ ?_)
    try simp only [Int.natCast_add, Int.cast_ofNat_Int, Int.natCast_one]
    try refine cnd_dec (fun h => absurd rfl h) (fun _ => ?_)
    try push_cast [getD_map hi2, hget, XLetter.row, XLetter.mrk]
    try simp (disch := omega) only [wrap64]
    refine draw_any ?_
    push_cast [getD_map hi2, hget, XLetter.row, XLetter.mrk]
    try simp (disch := omega) only [wrap64]
    repeat (first | refine And.intro (by omega) ?_ | refine And.intro ⟨by omega, by omega⟩ ?_ | refine And.intro ⟨by omega, by omega, by omega⟩ ?_)
    have hc := t_markText (G := G) (K + 1 + 1 + 1 + 1 + 1 + 1) (by omega)
    try simp only [Int.natCast_add, Int.cast_ofNat_Int, Int.natCast_one] at hc
    refine call_ok hc ?_
    clear hc
    push_cast [getD_map hi2, hget, XLetter.row, XLetter.mrk]
    refine ⟨by kernel_rfl, ?_⟩
    try simp (disch := omega) only [wrap64]
    repeat (first | refine And.intro (by omega) ?_ | refine And.intro ⟨by omega, by omega⟩ ?_ | refine And.intro ⟨by omega, by omega, by omega⟩ ?_)
    try simp only [Int.natCast_add, Int.cast_ofNat_Int, Int.natCast_one]
    try refine cnd_dec (fun h => absurd rfl h) (fun _ => ?_)
    try push_cast [getD_map hi2, hget, XLetter.row, XLetter.mrk]
    try simp (disch := omega) only [wrap64]
    repeat (first | refine And.intro (by omega) ?_ | refine And.intro ⟨by omega, by omega⟩ ?_ | refine And.intro ⟨by omega, by omega, by omega⟩ ?_)
    try simp only [Int.natCast_add, Int.cast_ofNat_Int, Int.natCast_one]
    try refine cnd_dec (fun h => absurd rfl h) (fun _ => ?_)
    try push_cast [getD_map hi2, hget, XLetter.row, XLetter.mrk]
    try simp (disch := omega) only [wrap64]
    repeat (first | refine And.intro (by omega) ?_ | refine And.intro ⟨by omega, by omega⟩ ?_ | refine And.intro ⟨by omega, by omega, by omega⟩ ?_)
    try simp only [Int.natCast_add, Int.cast_ofNat_Int, Int.natCast_one]
    try refine cnd_dec (fun h => absurd rfl h) (fun _ => ?_)
    try push_cast [getD_map hi2, hget, XLetter.row, XLetter.mrk]
    try simp (disch := omega) only [wrap64]
    repeat (first | refine And.intro (by omega) ?_ | refine And.intro ⟨by omega, by omega⟩ ?_ | refine And.intro ⟨by omega, by omega, by omega⟩ ?_)
    try simp only [Int.natCast_add, Int.cast_ofNat_Int, Int.natCast_one]
    try refine cnd_dec (fun h => absurd rfl h) (fun _ => ?_)
    try push_cast [getD_map hi2, hget, XLetter.row, XLetter.mrk]
    try simp (disch := omega) only [wrap64]
    repeat (first | refine And.intro (by omega) ?_ | refine And.intro ⟨by omega, by omega⟩ ?_ | refine And.intro ⟨by omega, by omega, by omega⟩ ?_)
    try simp only [Int.natCast_add, Int.cast_ofNat_Int, Int.natCast_one]
    try refine cnd_dec (fun h => absurd rfl h) (fun _ => ?_)
    try push_cast [getD_map hi2, hget, XLetter.row, XLetter.mrk]
    try simp (disch := omega) only [wrap64]
    repeat (first | refine And.intro (by omega) ?_ | refine And.intro ⟨by omega, by omega⟩ ?_ | refine And.intro ⟨by omega, by omega, by omega⟩ ?_)
    have hc := t_heldIntS (G := G) xs[i].Token.Wants (K + 1 + 1 + 1 + 1 + 1 + 1 + 1 + 1 + 1 + 1 + 1 + 1) (by omega)
    try simp only [Int.natCast_add, Int.cast_ofNat_Int, Int.natCast_one] at hc
    refine call_ok hc ?_
    clear hc
    push_cast [getD_map hi2, hget, XLetter.row, XLetter.mrk]
    refine cnd_dec (fun h => by omega) (fun _ => ?_)
    push_cast [getD_map hi2, hget, XLetter.row, XLetter.mrk]
    try simp (disch := omega) only [wrap64]
    repeat (first | refine And.intro (by omega) ?_ | refine And.intro ⟨by omega, by omega⟩ ?_ | refine And.intro ⟨by omega, by omega, by omega⟩ ?_)
    try simp only [Int.natCast_add, Int.cast_ofNat_Int, Int.natCast_one]
    try refine cnd_dec (fun h => absurd rfl h) (fun _ => ?_)
    try push_cast [getD_map hi2, hget, XLetter.row, XLetter.mrk]
    try simp (disch := omega) only [wrap64]
    repeat (first | refine And.intro (by omega) ?_ | refine And.intro ⟨by omega, by omega⟩ ?_ | refine And.intro ⟨by omega, by omega, by omega⟩ ?_)
    try simp only [Int.natCast_add, Int.cast_ofNat_Int, Int.natCast_one]
    try refine cnd_dec (fun h => absurd rfl h) (fun _ => ?_)
    try push_cast [getD_map hi2, hget, XLetter.row, XLetter.mrk]
    try simp (disch := omega) only [wrap64]
    repeat (first | refine And.intro (by omega) ?_ | refine And.intro ⟨by omega, by omega⟩ ?_ | refine And.intro ⟨by omega, by omega, by omega⟩ ?_)
    try simp only [Int.natCast_add, Int.cast_ofNat_Int, Int.natCast_one]
    try refine cnd_dec (fun h => absurd rfl h) (fun _ => ?_)
    try push_cast [getD_map hi2, hget, XLetter.row, XLetter.mrk]
    try simp (disch := omega) only [wrap64]
    repeat (first | refine And.intro (by omega) ?_ | refine And.intro ⟨by omega, by omega⟩ ?_ | refine And.intro ⟨by omega, by omega, by omega⟩ ?_)
    have hc := t_heldItemS (G := G) xs[i].Bundle.Items (K + 1 + 1 + 1 + 1 + 1 + 1 + 1 + 1 + 1 + 1 + 1 + 1 + cntL (fun _ => 1) xs[i].Token.Wants + 1 + 1 + 1) (by omega)
    try simp only [Int.natCast_add, Int.cast_ofNat_Int, Int.natCast_one] at hc
    refine call_ok hc ?_
    clear hc
    push_cast [getD_map hi2, hget, XLetter.row, XLetter.mrk]
    refine cnd_dec (fun h => by omega) (fun _ => ?_)
    push_cast [getD_map hi2, hget, XLetter.row, XLetter.mrk]
    try simp (disch := omega) only [wrap64]
    refine ⟨i + 1, ?_, by omega, by omega⟩
    have hcl2 := congrArg (fun x : Nat => (x : Int)) hcl
    try simp only [XLetter.ct, Int.natCast_add, Int.cast_ofNat_Int, Int.natCast_one] at hcl2
    try simp only [Int.natCast_add, Int.cast_ofNat_Int, Int.natCast_one]
    rw [hcl2]
    try simp only [Int.add_assoc]
  · have hi : i = xs.length := by omega
    subst hi
    rw [List.take_length]
    push_cast
    refine cnd_dec (fun hlt => ?_) (fun hge => ?_)
    · omega
    push_cast

noncomputable def c_laws_heldWorld : ACode := (.seq (.reg false [⟨none, .box 2 (.t 0), []⟩, ⟨none, .tk 4 (.k (.i .i64 0)), []⟩] [1, 2, 10002]) (.seq (.reg false [⟨none, .p 5 (.fa (.t 2) 0 0), []⟩, ⟨none, .p 6 (.ld (.t 5) 0 1 false), []⟩, ⟨none, .p 7 (.mv (.t 1)), []⟩, ⟨none, .call (some 8) 53 [.rd (.t 6), .rd (.t 7)], []⟩, ⟨none, .asg 1 (.t 8), []⟩] [1, 2, 10002]) (.seq (.seq (.reg false [⟨none, .p 9 (.mv (.t 1)), []⟩, ⟨none, .p 10 (.bin .lss (.t 9) (.k (.i .i64 0))), []⟩] [1, 2, 10, 10002]) (.cond (.t 10) (.seq (.reg false [⟨none, .tk 4 (.k (.i .i64 (-1))), []⟩] [4]) .ret) .skip)) (.seq (.reg false [⟨none, .p 11 (.fa (.t 2) 0 1), []⟩, ⟨none, .p 12 (.ld (.t 11) 0 1 false), []⟩, ⟨none, .p 13 (.mv (.t 1)), []⟩, ⟨none, .call (some 14) 54 [.rd (.t 12), .rd (.t 13)], []⟩, ⟨none, .asg 1 (.t 14), []⟩] [1, 2, 10002]) (.seq (.seq (.reg false [⟨none, .p 15 (.mv (.t 1)), []⟩, ⟨none, .p 16 (.bin .lss (.t 15) (.k (.i .i64 0))), []⟩] [1, 2, 16, 10002]) (.cond (.t 16) (.seq (.reg false [⟨none, .tk 4 (.k (.i .i64 (-1))), []⟩] [4]) .ret) .skip)) (.seq (.reg false [⟨none, .p 17 (.fa (.t 2) 0 2), []⟩, ⟨none, .p 18 (.ld (.t 17) 0 1 false), []⟩, ⟨none, .p 19 (.mv (.t 1)), []⟩, ⟨none, .call (some 20) 55 [.rd (.t 18), .rd (.t 19)], []⟩, ⟨none, .asg 1 (.t 20), []⟩] [1, 2, 10002]) (.seq (.seq (.reg false [⟨none, .p 21 (.mv (.t 1)), []⟩, ⟨none, .p 22 (.bin .lss (.t 21) (.k (.i .i64 0))), []⟩] [1, 2, 22, 10002]) (.cond (.t 22) (.seq (.reg false [⟨none, .tk 4 (.k (.i .i64 (-1))), []⟩] [4]) .ret) .skip)) (.seq (.reg false [⟨none, .p 23 (.fa (.t 2) 0 3), []⟩, ⟨none, .p 24 (.ld (.t 23) 0 1 false), []⟩, ⟨none, .p 25 (.mv (.t 1)), []⟩, ⟨none, .call (some 26) 56 [.rd (.t 24), .rd (.t 25)], []⟩, ⟨none, .asg 1 (.t 26), []⟩] [1]) (.seq (.seq (.reg false [⟨none, .p 27 (.mv (.t 1)), []⟩, ⟨none, .p 28 (.bin .lss (.t 27) (.k (.i .i64 0))), []⟩] [1, 28]) (.cond (.t 28) (.seq (.reg false [⟨none, .tk 4 (.k (.i .i64 (-1))), []⟩] [4]) .ret) .skip)) (.seq (.reg false [⟨none, .p 29 (.mv (.t 1)), []⟩, ⟨none, .tk 4 (.t 29), []⟩] [4]) .ret))))))))))
theorem code_laws_heldWorld : ∃ c, Tryd.f28.body = some c ∧ cfit PP 30 c c_laws_heldWorld = true := by
  refine ⟨_, (rfl : Tryd.f28.body = some _), ?_⟩
  kernel_rfl
theorem t_heldWorld {G : Glob} (a : XWorld) (k : Nat) (hk : k + a.vct ≤ 1073741824) : FnD PP G 28 [.val true (XWorld.vmk k a).vw, .val false [.ow (.lit (.int .i64 k))]] [] []
    [.v false [.ow (.lit (.int .i64 (k + a.vct : Nat)))]] [] [] := by
  simp only [XWorld.vw, XWorld.vmk, XWorld.vct, Int.natCast_add, Int.cast_ofNat_Int, Int.natCast_one] at hk ⊢
  obtain ⟨cc, hb, hcf⟩ := code_laws_heldWorld
  refine fn_ok (fn := Tryd.f28) (specs := [.t 4]) (by kernel_rfl) hb (by show (30:Nat) ≤ 10000; omega) hcf (by kernel_rfl) (by show (2:Nat) ≤ 30; omega) (by simp) (by simp) rfl rfl (by simp) rfl ?_
  simp only [c_laws_heldWorld]
  push_cast
  have hc := t_heldRingS (G := G) a.Rings (k) (by first | omega | (simp only [Nat.add_zero] ; omega))
  try simp only [Int.natCast_add, Int.cast_ofNat_Int, Int.natCast_one] at hc
  try simp only [← Nat.add_assoc, ← Int.add_assoc] at hc ⊢
  refine call_ok hc ?_
  clear hc
  push_cast
  refine cnd_dec (fun h => by omega) (fun _ => ?_)
  push_cast
  have hc := t_heldDaemonS (G := G) a.Daemons (k + cntL XRing.ct a.Rings) (by first | omega | (simp only [Nat.add_zero] ; omega))
  try simp only [Int.natCast_add, Int.cast_ofNat_Int, Int.natCast_one] at hc
  try simp only [← Nat.add_assoc, ← Int.add_assoc] at hc ⊢
  refine call_ok hc ?_
  clear hc
  push_cast
  refine cnd_dec (fun h => by omega) (fun _ => ?_)
  push_cast
  have hc := t_heldLetterS (G := G) a.Letters (k + cntL XRing.ct a.Rings + cntL XDaemon.ct a.Daemons) (by first | omega | (simp only [Nat.add_zero] ; omega))
  try simp only [Int.natCast_add, Int.cast_ofNat_Int, Int.natCast_one] at hc
  try simp only [← Nat.add_assoc, ← Int.add_assoc] at hc ⊢
  refine call_ok hc ?_
  clear hc
  push_cast
  refine cnd_dec (fun h => by omega) (fun _ => ?_)
  push_cast
  have hc := t_heldEventS (G := G) a.Numbered (k + cntL XRing.ct a.Rings + cntL XDaemon.ct a.Daemons + cntL XLetter.ct a.Letters) (by first | omega | (simp only [Nat.add_zero] ; omega))
  try simp only [Int.natCast_add, Int.cast_ofNat_Int, Int.natCast_one] at hc
  try simp only [← Nat.add_assoc, ← Int.add_assoc] at hc ⊢
  refine call_ok hc ?_
  clear hc
  push_cast
  refine cnd_dec (fun h => by omega) (fun _ => ?_)
  push_cast
  try simp [Int.add_assoc, Nat.add_assoc]

noncomputable def c_laws_heldCallerS : ACode := (.seq (.reg false [⟨none, .tk 4 (.k (.i .i64 0)), []⟩] [0, 1]) (.seq (.seq (.reg false [⟨none, .asg 5 (.k (.i .i64 0)), []⟩] [0, 1, 5]) (.block 0 (.loop [0, 1, 5] (.seq (.seq (.reg false [⟨none, .p 6 (.mv (.t 5)), []⟩, ⟨none, .p 7 (.mv (.t 0)), []⟩, ⟨none, .p 8 (.len false (.t 7)), []⟩, ⟨none, .p 9 (.bin .lss (.t 6) (.t 8)), []⟩] [0, 1, 5, 9]) (.cond (.t 9) .skip (.exit 0 [1]))) (.seq (.block 1 (.seq (.seq (.reg false [⟨none, .p 12 (.mv (.t 0)), []⟩, ⟨none, .p 13 (.mv (.t 5)), []⟩, ⟨none, .p 14 (.ia (.t 12) (.t 13) 11), []⟩, ⟨none, .p 15 (.fa (.t 14) 0 0), []⟩, ⟨none, .p 16 (.fa (.t 15) 0 0), []⟩, ⟨none, .p 17 (.ld (.t 16) 0 1 false), []⟩, ⟨none, .p 18 (.mv (.t 1)), []⟩, ⟨none, .p 19 (.bin .neq (.t 17) (.t 18)), []⟩] [0, 1, 5, 19]) (.cond (.t 19) (.seq (.reg false [⟨none, .tk 4 (.k (.i .i64 (-1))), []⟩] [4]) .ret) .skip)) (.seq (.reg false [⟨none, .p 20 (.mv (.t 1)), []⟩, ⟨none, .p 21 (.bin .add (.t 20) (.k (.i .i64 1))), []⟩, ⟨none, .asg 1 (.t 21), []⟩] [0, 1, 5]) (.seq (.seq (.reg true [⟨none, .p 22 (.mv (.t 0)), []⟩, ⟨none, .p 23 (.mv (.t 5)), []⟩, ⟨none, .p 24 (.ia (.t 22) (.t 23) 11), [0, 1]⟩, ⟨none, .p 25 (.fa (.t 24) 0 0), [2]⟩, ⟨none, .p 26 (.fa (.t 25) 0 1), [3]⟩, ⟨none, .p 27 (.ld (.t 26) 0 1 false), [4]⟩, ⟨none, .p 28 (.mv (.t 1)), []⟩, ⟨none, .call (some 29) 50 [.rd (.t 28)], [6]⟩, ⟨none, .p 30 (.bin .neq (.t 27) (.t 29)), [5, 7]⟩] [0, 1, 5, 30]) (.cond (.t 30) (.seq (.reg false [⟨none, .tk 4 (.k (.i .i64 (-1))), []⟩] [4]) .ret) .skip)) (.seq (.reg false [⟨none, .p 31 (.mv (.t 1)), []⟩, ⟨none, .p 32 (.bin .add (.t 31) (.k (.i .i64 1))), []⟩, ⟨none, .asg 1 (.t 32), []⟩] [0, 1, 5]) (.seq (.seq (.reg true [⟨none, .p 33 (.mv (.t 0)), []⟩, ⟨none, .p 34 (.mv (.t 5)), []⟩, ⟨none, .p 35 (.ia (.t 33) (.t 34) 11), [0, 1]⟩, ⟨none, .p 36 (.fa (.t 35) 0 0), [2]⟩, ⟨none, .p 37 (.fa (.t 36) 0 2), [3]⟩, ⟨none, .p 38 (.fa (.t 37) 0 0), [4]⟩, ⟨none, .p 39 (.ld (.t 38) 0 1 false), [5]⟩, ⟨none, .p 40 (.mv (.t 1)), []⟩, ⟨none, .call (some 41) 50 [.rd (.t 40)], [7]⟩, ⟨none, .p 42 (.bin .neq (.t 39) (.t 41)), [6, 8]⟩] [0, 1, 5, 42]) (.cond (.t 42) (.seq (.reg false [⟨none, .tk 4 (.k (.i .i64 (-1))), []⟩] [4]) .ret) .skip)) (.seq (.reg false [⟨none, .p 43 (.mv (.t 1)), []⟩, ⟨none, .p 44 (.bin .add (.t 43) (.k (.i .i64 1))), []⟩, ⟨none, .asg 1 (.t 44), []⟩] [0, 1, 5]) (.seq (.seq (.reg false [⟨none, .p 45 (.mv (.t 0)), []⟩, ⟨none, .p 46 (.mv (.t 5)), []⟩, ⟨none, .p 47 (.ia (.t 45) (.t 46) 11), []⟩, ⟨none, .p 48 (.fa (.t 47) 0 0), []⟩, ⟨none, .p 49 (.fa (.t 48) 0 2), []⟩, ⟨none, .p 50 (.fa (.t 49) 0 1), []⟩, ⟨none, .p 51 (.ld (.t 50) 0 1 false), []⟩, ⟨none, .p 52 (.mv (.t 1)), []⟩, ⟨none, .p 53 (.bin .rem (.t 52) (.k (.i .i64 3))), []⟩, ⟨none, .p 54 (.bin .eql (.t 53) (.k (.i .i64 0))), []⟩, ⟨none, .p 55 (.beq true (.t 51) (.t 54)), []⟩] [0, 1, 5, 55]) (.cond (.t 55) (.seq (.reg false [⟨none, .tk 4 (.k (.i .i64 (-1))), []⟩] [4]) .ret) .skip)) (.seq (.reg false [⟨none, .p 56 (.mv (.t 1)), []⟩, ⟨none, .p 57 (.bin .add (.t 56) (.k (.i .i64 1))), []⟩, ⟨none, .asg 1 (.t 57), []⟩] [0, 1, 5]) (.seq (.seq (.reg false [⟨none, .p 58 (.mv (.t 0)), []⟩, ⟨none, .p 59 (.mv (.t 5)), []⟩, ⟨none, .p 60 (.ia (.t 58) (.t 59) 11), []⟩, ⟨none, .p 61 (.fa (.t 60) 0 0), []⟩, ⟨none, .p 62 (.fa (.t 61) 0 4), []⟩, ⟨none, .p 63 (.ld (.t 62) 0 1 false), []⟩, ⟨none, .p 64 (.mv (.t 1)), []⟩, ⟨none, .p 65 (.bin .rem (.t 64) (.k (.i .i64 3))), []⟩, ⟨none, .p 66 (.bin .eql (.t 65) (.k (.i .i64 0))), []⟩, ⟨none, .p 67 (.beq true (.t 63) (.t 66)), []⟩] [0, 1, 5, 67]) (.cond (.t 67) (.seq (.reg false [⟨none, .tk 4 (.k (.i .i64 (-1))), []⟩] [4]) .ret) .skip)) (.seq (.reg false [⟨none, .p 68 (.mv (.t 1)), []⟩, ⟨none, .p 69 (.bin .add (.t 68) (.k (.i .i64 1))), []⟩, ⟨none, .asg 1 (.t 69), []⟩] [0, 1, 5]) (.seq (.reg false [⟨none, .p 70 (.mv (.t 0)), []⟩, ⟨none, .p 71 (.mv (.t 5)), []⟩, ⟨none, .p 72 (.ia (.t 70) (.t 71) 11), []⟩, ⟨none, .p 73 (.fa (.t 72) 0 0), []⟩, ⟨none, .p 74 (.fa (.t 73) 0 5), []⟩, ⟨none, .p 75 (.ld (.t 74) 0 1 false), []⟩, ⟨none, .p 76 (.mv (.t 1)), []⟩, ⟨none, .call (some 77) 57 [.rd (.t 75), .rd (.t 76)], []⟩, ⟨none, .asg 1 (.t 77), []⟩] [0, 1, 5]) (.seq (.seq (.reg false [⟨none, .p 78 (.mv (.t 1)), []⟩, ⟨none, .p 79 (.bin .lss (.t 78) (.k (.i .i64 0))), []⟩] [0, 1, 5, 79]) (.cond (.t 79) (.seq (.reg false [⟨none, .tk 4 (.k (.i .i64 (-1))), []⟩] [4]) .ret) .skip)) (.seq (.seq (.reg true [⟨none, .p 80 (.mv (.t 0)), []⟩, ⟨none, .p 81 (.mv (.t 5)), []⟩, ⟨none, .p 82 (.ia (.t 80) (.t 81) 11), [0, 1]⟩, ⟨none, .p 83 (.fa (.t 82) 0 6), [2]⟩, ⟨none, .p 84 (.fa (.t 83) 0 0), [3]⟩, ⟨none, .p 85 (.ld (.t 84) 0 1 false), [4]⟩, ⟨none, .p 86 (.mv (.t 1)), []⟩, ⟨none, .call (some 87) 50 [.rd (.t 86)], [6]⟩, ⟨none, .p 88 (.bin .neq (.t 85) (.t 87)), [5, 7]⟩] [0, 1, 5, 88]) (.cond (.t 88) (.seq (.reg false [⟨none, .tk 4 (.k (.i .i64 (-1))), []⟩] [4]) .ret) .skip)) (.seq (.reg false [⟨none, .p 89 (.mv (.t 1)), []⟩, ⟨none, .p 90 (.bin .add (.t 89) (.k (.i .i64 1))), []⟩, ⟨none, .asg 1 (.t 90), []⟩] [0, 1, 5]) (.seq (.reg false [⟨none, .p 91 (.mv (.t 0)), []⟩, ⟨none, .p 92 (.mv (.t 5)), []⟩, ⟨none, .p 93 (.ia (.t 91) (.t 92) 11), []⟩, ⟨none, .p 94 (.fa (.t 93) 0 6), []⟩, ⟨none, .p 95 (.fa (.t 94) 0 1), []⟩, ⟨none, .p 96 (.ld (.t 95) 0 1 false), []⟩, ⟨none, .p 97 (.mv (.t 1)), []⟩, ⟨none, .call (some 98) 57 [.rd (.t 96), .rd (.t 97)], []⟩, ⟨none, .asg 1 (.t 98), []⟩] [0, 1, 5]) (.seq (.seq (.reg false [⟨none, .p 99 (.mv (.t 1)), []⟩, ⟨none, .p 100 (.bin .lss (.t 99) (.k (.i .i64 0))), []⟩] [0, 1, 5, 100]) (.cond (.t 100) (.seq (.reg false [⟨none, .tk 4 (.k (.i .i64 (-1))), []⟩] [4]) .ret) .skip)) (.seq (.seq (.reg false [⟨none, .p 101 (.mv (.t 0)), []⟩, ⟨none, .p 102 (.mv (.t 5)), []⟩, ⟨none, .p 103 (.ia (.t 101) (.t 102) 11), []⟩, ⟨none, .p 104 (.fa (.t 103) 0 6), []⟩, ⟨none, .p 105 (.fa (.t 104) 0 2), []⟩, ⟨none, .p 106 (.ld (.t 105) 0 1 false), []⟩, ⟨none, .p 107 (.mv (.t 1)), []⟩, ⟨none, .p 108 (.bin .rem (.t 107) (.k (.i .i64 3))), []⟩, ⟨none, .p 109 (.bin .eql (.t 108) (.k (.i .i64 0))), []⟩, ⟨none, .p 110 (.beq true (.t 106) (.t 109)), []⟩] [0, 1, 5, 110]) (.cond (.t 110) (.seq (.reg false [⟨none, .tk 4 (.k (.i .i64 (-1))), []⟩] [4]) .ret) .skip)) (.seq (.reg false [⟨none, .p 111 (.mv (.t 1)), []⟩, ⟨none, .p 112 (.bin .add (.t 111) (.k (.i .i64 1))), []⟩, ⟨none, .asg 1 (.t 112), []⟩] [0, 1, 5]) (.seq (.seq (.reg true [⟨none, .p 113 (.mv (.t 0)), []⟩, ⟨none, .p 114 (.mv (.t 5)), []⟩, ⟨none, .p 115 (.ia (.t 113) (.t 114) 11), [0, 1]⟩, ⟨none, .p 116 (.fa (.t 115) 0 9), [2]⟩, ⟨none, .p 117 (.ld (.t 116) 0 1 false), [3]⟩, ⟨none, .p 118 (.mv (.t 1)), []⟩, ⟨none, .call (some 119) 50 [.rd (.t 118)], [5]⟩, ⟨none, .p 120 (.bin .neq (.t 117) (.t 119)), [4, 6]⟩] [0, 1, 5, 120]) (.cond (.t 120) (.seq (.reg false [⟨none, .tk 4 (.k (.i .i64 (-1))), []⟩] [4]) .ret) .skip)) (.seq (.reg false [⟨none, .p 121 (.mv (.t 1)), []⟩, ⟨none, .p 122 (.bin .add (.t 121) (.k (.i .i64 1))), []⟩, ⟨none, .asg 1 (.t 122), []⟩] [0, 1, 5]) (.seq (.reg false [⟨none, .p 123 (.mv (.t 0)), []⟩, ⟨none, .p 124 (.mv (.t 5)), []⟩, ⟨none, .p 125 (.ia (.t 123) (.t 124) 11), []⟩, ⟨none, .p 126 (.fa (.t 125) 0 10), []⟩, ⟨none, .p 127 (.ld (.t 126) 0 1 false), []⟩, ⟨none, .p 128 (.mv (.t 1)), []⟩, ⟨none, .call (some 129) 57 [.rd (.t 127), .rd (.t 128)], []⟩, ⟨none, .asg 1 (.t 129), []⟩] [0, 1, 5]) (.seq (.reg false [⟨none, .p 130 (.mv (.t 1)), []⟩, ⟨none, .p 131 (.bin .lss (.t 130) (.k (.i .i64 0))), []⟩] [0, 1, 5, 131]) (.cond (.t 131) (.seq (.reg false [⟨none, .tk 4 (.k (.i .i64 (-1))), []⟩] [4]) .ret) .skip)))))))))))))))))))))))) (.reg false [⟨none, .p 10 (.mv (.t 5)), []⟩, ⟨none, .p 11 (.bin .add (.t 10) (.k (.i .i64 1))), []⟩, ⟨none, .asg 5 (.t 11), []⟩] [0, 1, 5])))))) (.seq (.reg false [⟨none, .p 132 (.mv (.t 1)), []⟩, ⟨none, .tk 4 (.t 132), []⟩] [4]) .ret)))
theorem code_laws_heldCallerS : ∃ c, Tryd.f29.body = some c ∧ cfit PP 133 c c_laws_heldCallerS = true := by
  refine ⟨_, (rfl : Tryd.f29.body = some _), ?_⟩
  kernel_rfl
theorem t_heldCallerS {G : Glob} (xs : List XCaller) (k : Nat) (hk : k + cntL XCaller.ct xs ≤ 1073741824) : FnD PP G 29 [.val false [.vw none [] (.sl .ow 11 ((mkL XCaller.mrk XCaller.ct k xs).map XCaller.row))], .val false [.ow (.lit (.int .i64 k))]] [] []
    [.v false [.ow (.lit (.int .i64 (k + cntL XCaller.ct xs : Nat)))]] [] [] := by
  refine fn_bd fun hbd => ?_
  have hx : (mkL XCaller.mrk XCaller.ct k xs).length ≤ 281474976710656 := hbd _ (by simp [hdsA, lenT, Cl.tree])
  rw [mkL_len] at hx
  clear hbd
  obtain ⟨cc, hb, hcf⟩ := code_laws_heldCallerS
  refine fn_ok (fn := Tryd.f29) (specs := [.t 4]) (by kernel_rfl) hb (by show (133:Nat) ≤ 10000; omega) hcf (by kernel_rfl) (by show (2:Nat) ≤ 133; omega) (by simp) (by simp) rfl rfl (by simp) rfl ?_
  simp only [c_laws_heldCallerS]
  push_cast
  refine cwp_loop (fun i : Nat => ⟨[(0, .val false [.vw none [] (.sl .ow 11 ((mkL XCaller.mrk XCaller.ct k xs).map XCaller.row))]), (1, .val false [.ow (.lit (.int .i64 (k + cntL XCaller.ct (xs.take i) : Nat)))]), (5, .val false [.ow (.lit (.int .i64 i))])], []⟩)
    (fun i => i ≤ xs.length) (fun i => xs.length - i) 0 rfl (by simp [cntL]; rfl) (by omega) ?_
  intro i hle
  have hlen : (mkL XCaller.mrk XCaller.ct k xs).length = xs.length := mkL_len _ _ _ _
  by_cases hi : i < xs.length
  · have hi2 : i < (mkL XCaller.mrk XCaller.ct k xs).length := by omega
    have hget : (mkL XCaller.mrk XCaller.ct k xs)[i] = XCaller.mrk (k + cntL XCaller.ct (xs.take i)) xs[i] := mkL_get _ _ _ _ _ hi _
    have hcl : k + cntL XCaller.ct (xs.take (i + 1)) = (k + cntL XCaller.ct (xs.take i)) + XCaller.ct xs[i] := cnt_step XCaller.ct xs k i hi
    have hKb : (k + cntL XCaller.ct (xs.take i)) + XCaller.ct xs[i] ≤ 1073741824 := Nat.le_trans (cnt_le XCaller.ct xs k i hi) hk
    generalize k + cntL XCaller.ct (xs.take i) = K at hcl hKb hget ⊢
    try simp only [XCaller.ct] at hKb
    push_cast [getD_map hi2, hget, XCaller.row, XCaller.mrk]
    refine cnd_dec (fun hlt => ?_) (fun hge => by omega)
    push_cast [getD_map hi2, hget, XCaller.row, XCaller.mrk]
    try simp (disch := omega) only [wrap64]
    repeat (first | refine And.intro (by omega) ?_ | refine And.intro ⟨by omega, by omega⟩ ?_ | refine And.intro ⟨by omega, by omega, by omega⟩ ?_)
    try simp only [Int.natCast_add, Int.cast_ofNat_Int, Int.natCast_one]
    try refine cnd_dec (fun h => absurd rfl h) (fun _ => ?_)
    try push_cast [getD_map hi2, hget, XCaller.row, XCaller.mrk]
    try simp (disch := omega) only [wrap64]
    refine draw_any ?_
    push_cast [getD_map hi2, hget, XCaller.row, XCaller.mrk]
    try simp (disch := omega) only [wrap64]
    repeat (first | refine And.intro (by omega) ?_ | refine And.intro ⟨by omega, by omega⟩ ?_ | refine And.intro ⟨by omega, by omega, by omega⟩ ?_)
    have hc := t_markText (G := G) (K + 1) (by omega)
    try simp only [Int.natCast_add, Int.cast_ofNat_Int, Int.natCast_one] at hc
    refine call_ok hc ?_
    clear hc
    push_cast [getD_map hi2, hget, XCaller.row, XCaller.mrk]
    refine ⟨by kernel_rfl, ?_⟩
    try simp (disch := omega) only [wrap64]
    refine draw_any ?_
    push_cast [getD_map hi2, hget, XCaller.row, XCaller.mrk]
    try simp (disch := omega) only [wrap64]
    repeat (first | refine And.intro (by omega) ?_ | refine And.intro ⟨by omega, by omega⟩ ?_ | refine And.intro ⟨by omega, by omega, by omega⟩ ?_)
    have hc := t_markText (G := G) (K + 1 + 1) (by omega)
    try simp only [Int.natCast_add, Int.cast_ofNat_Int, Int.natCast_one] at hc
    refine call_ok hc ?_
    clear hc
    push_cast [getD_map hi2, hget, XCaller.row, XCaller.mrk]
    refine ⟨by kernel_rfl, ?_⟩
    try simp (disch := omega) only [wrap64]
    repeat (first | refine And.intro (by omega) ?_ | refine And.intro ⟨by omega, by omega⟩ ?_ | refine And.intro ⟨by omega, by omega, by omega⟩ ?_)
    try simp only [Int.natCast_add, Int.cast_ofNat_Int, Int.natCast_one]
    refine cnd_bool (fun h => by simp at h) (fun _ => ?_)
    try push_cast [getD_map hi2, hget, XCaller.row, XCaller.mrk]
    try simp (disch := omega) only [wrap64]
    repeat (first | refine And.intro (by omega) ?_ | refine And.intro ⟨by omega, by omega⟩ ?_ | refine And.intro ⟨by omega, by omega, by omega⟩ ?_)
    try simp only [Int.natCast_add, Int.cast_ofNat_Int, Int.natCast_one]
    refine cnd_bool (fun h => by simp at h) (fun _ => ?_)
    try push_cast [getD_map hi2, hget, XCaller.row, XCaller.mrk]
    try simp (disch := omega) only [wrap64]
    repeat (first | refine And.intro (by omega) ?_ | refine And.intro ⟨by omega, by omega⟩ ?_ | refine And.intro ⟨by omega, by omega, by omega⟩ ?_)
    have hc := t_heldStringS (G := G) xs[i].Session.In (K + 1 + 1 + 1 + 1 + 1) (by omega)
    try simp only [Int.natCast_add, Int.cast_ofNat_Int, Int.natCast_one] at hc
    refine call_ok hc ?_
    clear hc
    push_cast [getD_map hi2, hget, XCaller.row, XCaller.mrk]
    refine cnd_dec (fun h => by omega) (fun _ => ?_)
    push_cast [getD_map hi2, hget, XCaller.row, XCaller.mrk]
    try simp (disch := omega) only [wrap64]
    refine draw_any ?_
    push_cast [getD_map hi2, hget, XCaller.row, XCaller.mrk]
    try simp (disch := omega) only [wrap64]
    repeat (first | refine And.intro (by omega) ?_ | refine And.intro ⟨by omega, by omega⟩ ?_ | refine And.intro ⟨by omega, by omega, by omega⟩ ?_)
    have hc := t_markText (G := G) (K + 1 + 1 + 1 + 1 + 1 + cntL (fun _ => 1) xs[i].Session.In) (by omega)
    try simp only [Int.natCast_add, Int.cast_ofNat_Int, Int.natCast_one] at hc
    refine call_ok hc ?_
    clear hc
    push_cast [getD_map hi2, hget, XCaller.row, XCaller.mrk]
    refine ⟨by kernel_rfl, ?_⟩
    try simp (disch := omega) only [wrap64]
    repeat (first | refine And.intro (by omega) ?_ | refine And.intro ⟨by omega, by omega⟩ ?_ | refine And.intro ⟨by omega, by omega, by omega⟩ ?_)
    have hc := t_heldStringS (G := G) xs[i].Box.Texts (K + 1 + 1 + 1 + 1 + 1 + cntL (fun _ => 1) xs[i].Session.In + 1) (by omega)
    try simp only [Int.natCast_add, Int.cast_ofNat_Int, Int.natCast_one] at hc
    refine call_ok hc ?_
    clear hc
    push_cast [getD_map hi2, hget, XCaller.row, XCaller.mrk]
    refine cnd_dec (fun h => by omega) (fun _ => ?_)
    push_cast [getD_map hi2, hget, XCaller.row, XCaller.mrk]
    try simp (disch := omega) only [wrap64]
    repeat (first | refine And.intro (by omega) ?_ | refine And.intro ⟨by omega, by omega⟩ ?_ | refine And.intro ⟨by omega, by omega, by omega⟩ ?_)
    try simp only [Int.natCast_add, Int.cast_ofNat_Int, Int.natCast_one]
    refine cnd_bool (fun h => by simp at h) (fun _ => ?_)
    try push_cast [getD_map hi2, hget, XCaller.row, XCaller.mrk]
    try simp (disch := omega) only [wrap64]
    refine draw_any ?_
    push_cast [getD_map hi2, hget, XCaller.row, XCaller.mrk]
    try simp (disch := omega) only [wrap64]
    repeat (first | refine And.intro (by omega) ?_ | refine And.intro ⟨by omega, by omega⟩ ?_ | refine And.intro ⟨by omega, by omega, by omega⟩ ?_)
    have hc := t_markText (G := G) (K + 1 + 1 + 1 + 1 + 1 + cntL (fun _ => 1) xs[i].Session.In + 1 + cntL (fun _ => 1) xs[i].Box.Texts + 1) (by omega)
    try simp only [Int.natCast_add, Int.cast_ofNat_Int, Int.natCast_one] at hc
    refine call_ok hc ?_
    clear hc
    push_cast [getD_map hi2, hget, XCaller.row, XCaller.mrk]
    refine ⟨by kernel_rfl, ?_⟩
    try simp (disch := omega) only [wrap64]
    repeat (first | refine And.intro (by omega) ?_ | refine And.intro ⟨by omega, by omega⟩ ?_ | refine And.intro ⟨by omega, by omega, by omega⟩ ?_)
    have hc := t_heldStringS (G := G) xs[i].Got (K + 1 + 1 + 1 + 1 + 1 + cntL (fun _ => 1) xs[i].Session.In + 1 + cntL (fun _ => 1) xs[i].Box.Texts + 1 + 1) (by omega)
    try simp only [Int.natCast_add, Int.cast_ofNat_Int, Int.natCast_one] at hc
    refine call_ok hc ?_
    clear hc
    push_cast [getD_map hi2, hget, XCaller.row, XCaller.mrk]
    refine cnd_dec (fun h => by omega) (fun _ => ?_)
    push_cast [getD_map hi2, hget, XCaller.row, XCaller.mrk]
    try simp (disch := omega) only [wrap64]
    refine ⟨i + 1, ?_, by omega, by omega⟩
    have hcl2 := congrArg (fun x : Nat => (x : Int)) hcl
    try simp only [XCaller.ct, Int.natCast_add, Int.cast_ofNat_Int, Int.natCast_one] at hcl2
    try simp only [Int.natCast_add, Int.cast_ofNat_Int, Int.natCast_one]
    rw [hcl2]
    try simp only [Int.add_assoc]
  · have hi : i = xs.length := by omega
    subst hi
    rw [List.take_length]
    push_cast
    refine cnd_dec (fun hlt => ?_) (fun hge => ?_)
    · omega
    push_cast

noncomputable def c_laws_heldHall : ACode := (.seq (.reg false [⟨none, .box 2 (.t 0), []⟩, ⟨none, .tk 4 (.k (.i .i64 0)), []⟩] [1, 2, 10002]) (.seq (.reg false [⟨none, .p 5 (.fa (.t 2) 0 0), []⟩, ⟨none, .p 6 (.ld (.t 5) 0 4 true), []⟩, ⟨none, .p 7 (.mv (.t 1)), []⟩, ⟨none, .call (some 8) 28 [.rd (.t 6), .rd (.t 7)], []⟩, ⟨none, .asg 1 (.t 8), []⟩] [1, 2, 10002]) (.seq (.seq (.reg false [⟨none, .p 9 (.mv (.t 1)), []⟩, ⟨none, .p 10 (.bin .lss (.t 9) (.k (.i .i64 0))), []⟩] [1, 2, 10, 10002]) (.cond (.t 10) (.seq (.reg false [⟨none, .tk 4 (.k (.i .i64 (-1))), []⟩] [4]) .ret) .skip)) (.seq (.reg false [⟨none, .p 11 (.fa (.t 2) 0 4), []⟩, ⟨none, .p 12 (.ld (.t 11) 0 1 false), []⟩, ⟨none, .p 13 (.mv (.t 1)), []⟩, ⟨none, .call (some 14) 29 [.rd (.t 12), .rd (.t 13)], []⟩, ⟨none, .asg 1 (.t 14), []⟩] [1, 2, 10002]) (.seq (.seq (.reg false [⟨none, .p 15 (.mv (.t 1)), []⟩, ⟨none, .p 16 (.bin .lss (.t 15) (.k (.i .i64 0))), []⟩] [1, 2, 16, 10002]) (.cond (.t 16) (.seq (.reg false [⟨none, .tk 4 (.k (.i .i64 (-1))), []⟩] [4]) .ret) .skip)) (.seq (.reg false [⟨none, .p 17 (.fa (.t 2) 0 5), []⟩, ⟨none, .p 18 (.ld (.t 17) 0 1 false), []⟩, ⟨none, .p 19 (.mv (.t 1)), []⟩, ⟨none, .call (some 20) 30 [.rd (.t 18), .rd (.t 19)], []⟩, ⟨none, .asg 1 (.t 20), []⟩] [1, 2, 10002]) (.seq (.seq (.reg false [⟨none, .p 21 (.mv (.t 1)), []⟩, ⟨none, .p 22 (.bin .lss (.t 21) (.k (.i .i64 0))), []⟩] [1, 2, 22, 10002]) (.cond (.t 22) (.seq (.reg false [⟨none, .tk 4 (.k (.i .i64 (-1))), []⟩] [4]) .ret) .skip)) (.seq (.reg false [⟨none, .p 23 (.fa (.t 2) 0 6), []⟩, ⟨none, .p 24 (.ld (.t 23) 0 1 false), []⟩, ⟨none, .p 25 (.mv (.t 1)), []⟩, ⟨none, .call (some 26) 31 [.rd (.t 24), .rd (.t 25)], []⟩, ⟨none, .asg 1 (.t 26), []⟩] [1]) (.seq (.seq (.reg false [⟨none, .p 27 (.mv (.t 1)), []⟩, ⟨none, .p 28 (.bin .lss (.t 27) (.k (.i .i64 0))), []⟩] [1, 28]) (.cond (.t 28) (.seq (.reg false [⟨none, .tk 4 (.k (.i .i64 (-1))), []⟩] [4]) .ret) .skip)) (.seq (.reg false [⟨none, .p 29 (.mv (.t 1)), []⟩, ⟨none, .tk 4 (.t 29), []⟩] [4]) .ret))))))))))
theorem code_laws_heldHall : ∃ c, Tryd.f12.body = some c ∧ cfit PP 30 c c_laws_heldHall = true := by
  refine ⟨_, (rfl : Tryd.f12.body = some _), ?_⟩
  kernel_rfl
theorem t_heldHall {G : Glob} (a : XHall) (k : Nat) (hk : k + a.vct ≤ 1073741824) : FnD PP G 12 [.val true (XHall.vmk k a).vw, .val false [.ow (.lit (.int .i64 k))]] [] []
    [.v false [.ow (.lit (.int .i64 (k + a.vct : Nat)))]] [] [] := by
  simp only [XHall.vw, XHall.vmk, XHall.vct, Int.natCast_add, Int.cast_ofNat_Int, Int.natCast_one] at hk ⊢
  obtain ⟨cc, hb, hcf⟩ := code_laws_heldHall
  refine fn_ok (fn := Tryd.f12) (specs := [.t 4]) (by kernel_rfl) hb (by show (30:Nat) ≤ 10000; omega) hcf (by kernel_rfl) (by show (2:Nat) ≤ 30; omega) (by simp) (by simp) rfl rfl (by simp) rfl ?_
  simp only [c_laws_heldHall]
  push_cast
  have hc := t_heldWorld (G := G) a.World (k) (by first | omega | (simp only [XWorld.vct] ; omega))
  simp only [XWorld.vw, XWorld.vmk, XWorld.vct] at hc
  try simp only [Int.natCast_add, Int.cast_ofNat_Int, Int.natCast_one] at hc
  try simp only [← Nat.add_assoc, ← Int.add_assoc] at hc ⊢
  refine call_ok hc ?_
  clear hc
  push_cast
  refine cnd_dec (fun h => by omega) (fun _ => ?_)
  push_cast
  have hc := t_heldCallerS (G := G) a.Callers (k + (cntL XRing.ct a.World.Rings + cntL XDaemon.ct a.World.Daemons + cntL XLetter.ct a.World.Letters + cntL XEvent.ct a.World.Numbered)) (by first | omega | (simp only [Nat.add_zero] ; omega))
  try simp only [Int.natCast_add, Int.cast_ofNat_Int, Int.natCast_one] at hc
  try simp only [← Nat.add_assoc, ← Int.add_assoc] at hc ⊢
  refine call_ok hc ?_
  clear hc
  push_cast
  refine cnd_dec (fun h => by omega) (fun _ => ?_)
  push_cast
  have hc := t_heldTableS (G := G) a.Tables (k + (cntL XRing.ct a.World.Rings + cntL XDaemon.ct a.World.Daemons + cntL XLetter.ct a.World.Letters + cntL XEvent.ct a.World.Numbered) + cntL XCaller.ct a.Callers) (by first | omega | (simp only [Nat.add_zero] ; omega))
  try simp only [Int.natCast_add, Int.cast_ofNat_Int, Int.natCast_one] at hc
  try simp only [← Nat.add_assoc, ← Int.add_assoc] at hc ⊢
  refine call_ok hc ?_
  clear hc
  push_cast
  refine cnd_dec (fun h => by omega) (fun _ => ?_)
  push_cast
  have hc := t_heldIntS (G := G) a.Seen (k + (cntL XRing.ct a.World.Rings + cntL XDaemon.ct a.World.Daemons + cntL XLetter.ct a.World.Letters + cntL XEvent.ct a.World.Numbered) + cntL XCaller.ct a.Callers + cntL XTable.ct a.Tables) (by first | omega | (simp only [Nat.add_zero] ; omega))
  try simp only [Int.natCast_add, Int.cast_ofNat_Int, Int.natCast_one] at hc
  try simp only [← Nat.add_assoc, ← Int.add_assoc] at hc ⊢
  refine call_ok hc ?_
  clear hc
  push_cast
  refine cnd_dec (fun h => by omega) (fun _ => ?_)
  push_cast
  try simp [Int.add_assoc, Nat.add_assoc]

end Go.Eng

set_option maxRecDepth 100000
namespace Go.Eng
open Go.Proofs

theorem of_int (rows : List Row) (h : ∀ row ∈ rows, tyR [.int] row) : ∃ xs : List Int, rows = xs.map intR :=
  of_list (fun row h => by simp only [tyR, tyT] at h; obtain ⟨t, r, rfl, ⟨n, rfl⟩, rfl⟩ := h; exact ⟨n, rfl⟩) rows h
theorem of_str (rows : List Row) (h : ∀ row ∈ rows, tyR [.str] row) : ∃ xs : List ByteArray, rows = xs.map strR :=
  of_list (fun row h => by simp only [tyR, tyT] at h; obtain ⟨t, r, rfl, ⟨n, rfl⟩, rfl⟩ := h; exact ⟨n, rfl⟩) rows h
theorem bk_list {α : Type} {f : α → Row} {m : α → Nat} (h : ∀ a, m a + 1 ≤ bkRow (f a)) (xs : List α) : msL m xs ≤ bkRows (xs.map f) := by
  induction xs with
  | nil => simp [msL]
  | cons a l ih =>
    have := h a
    simp only [msL, List.length_cons, List.map_cons, List.sum_cons, bkRows] at ih ⊢
    omega
theorem bk_ints (xs : List Int) : xs.length ≤ bkRows (xs.map intR) := by
  induction xs with
  | nil => simp
  | cons a l ih => simp only [List.length_cons, List.map_cons, bkRows, intR, bkRow, bkT]; omega
theorem bk_strs (xs : List ByteArray) : msL ByteArray.size xs ≤ bkRows (xs.map strR) := bk_list (fun s => by simp only [strR, bkRow, bkT]; omega) xs
def XRing.tys : List CT := [.int, .sl [.int]]
theorem XRing.vw_eq (a : XRing) : a.row.map vwT = a.vw := rfl
theorem of_Ring (row : Row) (h : tyR XRing.tys row) : ∃ a : XRing, row = a.row := by
  simp only [XRing.tys, tyR, tyT] at h
  obtain ⟨t0, r0, e0, q0, h⟩ := h
  obtain ⟨t1, r1, e1, q1, h⟩ := h
  obtain ⟨x0, rfl⟩ := q0
  obtain ⟨s1, rfl, q1⟩ := q1
  obtain ⟨x1, rfl⟩ := of_int s1 q1
  subst h; subst e1; subst e0
  exact ⟨⟨x0, x1⟩, rfl⟩
theorem bk_Ring (a : XRing) : a.ms + 1 ≤ bkRow a.row := by
  have h0 := bk_ints a.Members
  simp only [XRing.ms, XRing.row, bkRow, bkT]
  omega
end Go.Eng
