/- A function: its results, and its contract out of its body. -/
import Derived.Test.YtpgdmpihbfmnfaaDoorE2
import Derived.Laws.BitsLemmas
import Derived.ChangeSame
import Derived.ChangeSlices
import Derived.ChangeArms
import Derived.Carry
import Derived.OpenShut
import Derived.WalkKit
import Derived.ProofKit
import Derived.JoinedCond
set_option linter.unusedSimpArgs false
set_option linter.unusedVariables false
namespace Go.Eng
variable {P : Program} {G : Glob} {N : Nat} {w0 : World} {g0 : Ghost} {ar tm : Array Value} {S S' : St} {w w1 : World} {g g1 : Ghost}

inductive RS where
  | t (x : Nat)
  | c (x n : Nat)

def keepRO : Option Lab → List Key → Bool := fun pl ks => pl.isNone && ks.isEmpty
def resOut : St → List RS → Option (List Rv × St)
  | S, [] => some ([], S)
  | S, .t x :: l => match rsv S keepRO (.t x) with
    | some (agg, row, S1) => if roB row && decide (row.length ≤ 1000) then (resOut S1 l).map fun q => (.v agg row :: q.1, q.2) else none
    | none => none
  | S, .c x n :: l => match S.get x with
    | .pr r 0 => (match S.get r with
      | .mem R => if R.length = n ∧ 0 < n ∧ n ≤ 1000 ∧ r < 19000 then (match rsvRow S keepRO r 0 R with
          | some (row, S1) => if roB row then (resOut S1 l).map fun q => (.v true row :: q.1, q.2) else none
          | none => none) else none
      | _ => none)
    | _ => none

/-- What a result's value is. -/
def RS.val (w : World) (tm : Array Value) : RS → Value → Prop
  | .t x, v => v = tm.getD x undef
  | .c x n, v => ∃ b k arr e, tm.getD x undef = .pointer (some ⟨b, k, none⟩) ∧ w.heap[b]? = some (.cells arr e (0, 0)) ∧ k + n ≤ arr.size ∧ v = .agg (rowV arr k n)

/-- Results that stand ready. -/
def resAt (S : St) (g : Ghost) (w : World) (tm : Array Value) (m : Nat) (rs : List Rv) (l : List RS) : Prop :=
  ∀ i r s, rs[i]? = some r → l[i]? = some s → ∃ agg row v, r = .v agg row ∧ RS.val w tm s v ∧ roB row = true ∧ row.length ≤ 1000 ∧ ValR S.k g w 19000 (1000 * (m + i)) agg row v

theorem res_sound : ∀ (l : List RS) (m : Nat) (S S1 : St) (rs : List Rv) (g : Ghost), Rel N w0 g0 ar S tm w g → resOut S l = some (rs, S1) →
    ∃ g', Rel N w0 g0 ar S1 tm w g' ∧ rs.length = l.length ∧ resAt S1 g' w tm m rs l ∧ Kept S S1 g g' w (fun i => 1000 * m ≤ i) := by
  intro l
  induction l with
  | nil =>
    intro m S S1 rs g h he
    simp only [resOut, Option.some.injEq, Prod.mk.injEq] at he
    obtain ⟨rfl, rfl⟩ := he
    exact ⟨g, h, rfl, fun i r s hr => by simp at hr, Kept.refl _ _ _ _⟩
  | cons s l ih =>
    intro m S S1 rs g h he
    have hstep : ∀ (S2 : St) (g2 : Ghost) (agg : Bool) (row : List Cl) (v : Value) (q : List Rv × St), Rel N w0 g0 ar S2 tm w g2 → RS.val w tm s v → roB row = true → row.length ≤ 1000 → ValR S2.k g2 w 19000 (1000 * m) agg row v → Kept S S2 g g2 w (fun i => 1000 * m ≤ i) →
        resOut S2 l = some q → (Rv.v agg row :: q.1, q.2) = (rs, S1) → ∃ g', Rel N w0 g0 ar S1 tm w g' ∧ rs.length = (s :: l).length ∧ resAt S1 g' w tm m rs (s :: l) ∧ Kept S S1 g g' w (fun i => 1000 * m ≤ i) := by
      rintro S2 g2 agg row v ⟨rs', S'⟩ k1 hsv hro hle hval hkept h1 h2
      simp only [Prod.mk.injEq] at h2
      obtain ⟨rfl, rfl⟩ := h2
      obtain ⟨g3, m1, m2, m3, m4⟩ := ih (m + 1) S2 _ rs' g2 k1 h1
      refine ⟨g3, m1, by simp [m2], fun i r s' hr hs => ?_, (hkept.trans m4).mono fun i hi => by rcases hi with hi | hi <;> omega⟩
      cases i with
      | zero =>
        simp at hr hs
        subst hr; subst hs
        exact ⟨agg, row, v, rfl, hsv, hro, hle, hval.kept m4 fun o ho => by omega⟩
      | succ i =>
        obtain ⟨agg', row', v', q1, q2, q3, q4, q5⟩ := m3 i r s' (by simpa using hr) (by simpa using hs)
        exact ⟨agg', row', v', q1, q2, q3, q4, by rwa [show m + (i + 1) = m + 1 + i by omega]⟩
    cases s with
    | t x =>
      simp only [resOut] at he
      split at he
      · rename_i agg row S2 hr
        split at he
        · rename_i hro
          simp only [Bool.and_eq_true, decide_eq_true_eq] at hro
          simp only [Option.map_eq_some_iff] at he
          obtain ⟨q, h1, h2⟩ := he
          obtain ⟨g2, k1, k2, k3⟩ := rsv_sound h hr (1000 * m)
          exact hstep S2 g2 agg row _ q k1 rfl hro.1 hro.2 k2 (k3.mono fun i hi => hi.1) h1 h2
        · cases he
      · cases he
    | c x n =>
      simp only [resOut] at he
      split at he
      · rename_i r hx
        split at he
        · rename_i R hR
          split at he
          · rename_i hc
            obtain ⟨rfl, hn0, hn1, hr19⟩ := hc
            split at he
            · rename_i row S2 hrr
              split at he
              · rename_i hro
                simp only [Option.map_eq_some_iff] at he
                obtain ⟨q, h1, h2⟩ := he
                have hp := h.vars x
                rw [hx] at hp
                obtain ⟨b, k, e1, e2⟩ := hp
                have hv := h.vars r
                rw [hR] at hv
                obtain ⟨b1, k0, arr, e, y1, y2, y3⟩ := hv
                obtain ⟨y4, _⟩ := y3 0 _ (List.getElem?_eq_getElem hn0)
                obtain ⟨rfl, e3⟩ := h.inj _ _ _ _ _ e2 y4
                have e3 : k = k0 := by omega
                subst e3
                obtain ⟨g2, k1, k2, k3, k4⟩ := rsvRow_sound hr19 (fun j => arr.getD (k + j) undef) (1000 * m) R 0 S S2 g row h (fun j c hj => by
                  rw [Nat.zero_add]; exact (y3 j c hj).2) hrr
                refine hstep S2 g2 true row (.agg (rowV arr k R.length)) q k1 ⟨b, k, arr, e, e1, y1, y2, rfl⟩ hro (by omega) ?_ (k4.mono fun i hi => by omega) h1 h2
                refine ⟨_, rfl, by rw [rowV_size]; omega, fun o c hc => ?_⟩
                have hlt := (List.getElem?_eq_some_iff.1 hc).1
                rw [rowV_get _ _ _ _ (by omega)]
                have := k3 o c hc
                rw [Nat.zero_add, Nat.add_zero] at this
                exact this
              · cases he
            · cases he
          · cases he
        · cases he
      · cases he

def rsB (P : Program) : List ResultVar → List RS → Bool
  | [], [] => true
  | .tmp t :: l, .t x :: m => t == x && rsB P l m
  | .cell t ty :: l, .c x n :: m => t == x && aggOf P ty == some true && szOf P ty == some n && rsB P l m
  | _, _ => false

theorem run_results {fn : Func} {specs : List RS} (hb : rsB P fn.results.toList specs = true) {vs : List Value} (hl : vs.length = specs.length) (hv : ∀ i s, specs[i]? = some s → RS.val w tm s (vs.getD i undef)) :
    (results fn tm).run P w = .ok (match vs with | [v] => v | vs => .tuple vs.toArray) w := by
  have hgo : ∀ (l : List ResultVar) (specs : List RS) (vs : List Value), rsB P l specs = true → vs.length = specs.length → (∀ (i : Nat) s, specs[i]? = some s → RS.val w tm s (vs.getD i undef)) →
      (l.mapM (m := Sem) fun | .tmp t => pure (tm.getD t undef) | .cell a t => do loadVar t (← asAddr (tm.getD a undef))).run P w = .ok vs w := by
    intro l
    induction l with
    | nil =>
      intro specs vs hb hl hv
      cases specs with
      | nil => cases vs with
        | nil => rfl
        | cons v vs => simp at hl
      | cons s m => simp [rsB] at hb
    | cons r l ih =>
      intro specs vs hb hl hv
      cases specs with
      | nil => cases r <;> simp [rsB] at hb
      | cons s m =>
        cases vs with
        | nil => simp at hl
        | cons v vs =>
          have h0 := hv 0 s rfl
          have hrest := ih m vs
          rw [List.mapM_cons]
          cases r with
          | tmp t =>
            cases s with
            | c x n => simp [rsB] at hb
            | t x =>
              simp only [rsB, Bool.and_eq_true, beq_iff_eq] at hb
              obtain ⟨rfl, hb⟩ := hb
              have h0 : v = tm.getD t undef := h0
              have := hrest hb (by simpa using hl) (fun i s hs => by simpa using hv (i + 1) s (by simpa using hs))
              rw [run_seq (a := v) (w' := w) _ _ _ (by rw [h0]; rfl), run_seq _ _ _ this]; rfl
          | cell t ty =>
            cases s with
            | t x => simp [rsB] at hb
            | c x n =>
              simp only [rsB, Bool.and_eq_true, beq_iff_eq] at hb
              obtain ⟨⟨⟨rfl, h1⟩, h2⟩, hb⟩ := hb
              obtain ⟨b, k, arr, e, e1, e2, e3, e4⟩ := h0
              have := hrest hb (by simpa using hl) (fun i s hs => by simpa using hv (i + 1) s (by simpa using hs))
              have hld := run_load_cells (P := P) e2 e3 h2 h1 (.inl rfl)
              have hv0 : v = .agg (rowV arr k n) := e4
              rw [run_seq (a := v) (w' := w) _ _ _ (by
                show ((asAddr (tm.getD t undef)) >>= fun x => loadVar ty x : Sem Value).run P w = _
                rw [e1, hv0]
                rw [run_seq (a := (⟨b, k, none⟩ : Addr)) (w' := w) _ _ _ rfl]
                exact hld), run_seq _ _ _ this]
              rfl
  unfold results
  rw [Array.mapM_eq_mapM_toList]
  have := hgo fn.results.toList specs vs hb hl hv
  rw [run_seq (a := vs.toArray) (w' := w) _ _ _ (by
    rw [show (List.toArray <$> (fn.results.toList.mapM (m := Sem) _)) = (fn.results.toList.mapM (m := Sem) _) >>= fun x => pure x.toArray from map_eq_pure_bind _ _]
    exact run_seq (P := P) _ (fun x => pure x.toArray) w this)]
  match vs with
  | [] => rfl
  | [v] => rfl
  | v :: u :: vs => rfl
end Go.Eng

namespace Go.Eng
variable {P : Program} {G : Glob} {N : Nat} {w0 : World} {g0 : Ghost} {ar tm : Array Value} {S S' : St} {w w1 : World} {g g1 : Ghost} {vs : List Value} {rs : List Rv} {ms : List Row} {hs : List (Nat × Row)} {As : List A} {mems : List Row} {hids : List (Nat × Row)}

def memsE (S : St) : Nat → Nat → Option (List Row)
  | _, 0 => some []
  | j, n + 1 => match S.get (15000 + j) with
    | .mem R => (match rowT R with
      | some ts => (memsE S (j + 1) n).map (ts :: ·)
      | none => none)
    | _ => none
def hidsE (S : St) : List Nat → Option (List (Nat × Row))
  | [] => some []
  | m :: l => match S.get (16000 + m) with
    | .hid row => (hidsE S l).map ((m, row) :: ·)
    | _ => none
/-- New memory that a pointer hands out. -/
def bxOut (S : St) : List RS → Option (Nat × Row)
  | [.t x] => match S.get x with
    | .pr r 0 => (match S.get r with
      | .mem R => if 10000 ≤ r ∧ r < 15000 ∧ 0 < R.length then (rowT R).map fun ts => (r, ts) else none
      | _ => none)
    | _ => none
  | _ => none
def exitA (S : St) (specs : List RS) (n : Nat) (hk : List Nat) : Option (List Rv × List Row × List (Nat × Row)) :=
  match bxOut S specs with
  | some q => (match memsE S 0 n, hidsE S hk with
    | some ms, some hs => some ([.bx q.2], ms, hs)
    | _, _ => none)
  | none => (match resOut S specs with
    | some (rs, S1) => (match memsE S1 0 n, hidsE S1 hk with
      | some ms, some hs => some (rs, ms, hs)
      | _, _ => none)
    | none => none)

theorem memsE_get {S : St} : ∀ {n j : Nat} {l : List Row}, memsE S j n = some l → ∀ i row, l[i]? = some row → S.get (15000 + (j + i)) = .mem (row.map .ow) := by
  intro n
  induction n with
  | zero => intro j l h i row hi; simp only [memsE, Option.some.injEq] at h; subst h; simp at hi
  | succ n ih =>
    intro j l h i row hi
    simp only [memsE] at h
    split at h
    · rename_i R hR
      split at h
      · rename_i ts hts
        simp only [Option.map_eq_some_iff] at h
        obtain ⟨l', h1, rfl⟩ := h
        cases i with
        | zero =>
          simp at hi; subst hi
          rw [Nat.add_zero, hR]
          congr 1
          exact List.ext_getElem? fun k => by rw [rowT_get hts]
        | succ i => have := ih h1 i row (by simpa using hi); rwa [show j + 1 + i = j + (i + 1) by omega] at this
      · cases h
    · cases h
theorem hidsE_get {S : St} : ∀ {hk : List Nat} {l : List (Nat × Row)}, hidsE S hk = some l → ∀ q ∈ l, S.get (16000 + q.1) = .hid q.2 := by
  intro hk
  induction hk with
  | nil => intro l h q hq; simp only [hidsE, Option.some.injEq] at h; subst h; cases hq
  | cons m hk ih =>
    intro l h q hq
    simp only [hidsE] at h
    split at h
    · rename_i row hR
      simp only [Option.map_eq_some_iff] at h
      obtain ⟨l', h1, rfl⟩ := h
      rcases List.mem_cons.1 hq with rfl | hq
      · exact hR
      · exact ih h1 q hq
    · cases h

open Classical in
/-- The labels at the end. -/
noncomputable def lamE (bx : Option Nat) (l : Lab) : Option Lab :=
  if Sp l ∨ (15000 ≤ l.1 ∧ l.1 < 19000) then some l
  else match bx with
    | some r => if l.1 = r then some (30000, l.2.1, l.2.2) else none
    | none => if l.1 = 19000 ∧ l.2.2 ≠ [] then some (30000 + l.2.1 / 1000, l.2.1 % 1000, l.2.2) else none
theorem lamE_some {bx : Option Nat} {l m : Lab} (h : lamE bx l = some m) : (m = l ∧ (Sp l ∨ (15000 ≤ l.1 ∧ l.1 < 19000))) ∨ (30000 ≤ m.1 ∧ ((∃ r, bx = some r ∧ l = (r, m.2.1, m.2.2)) ∨ (bx = none ∧ l = (19000, 1000 * (m.1 - 30000) + m.2.1, m.2.2)))) := by
  unfold lamE at h
  split at h
  · injection h with h; exact .inl ⟨h.symm, by assumption⟩
  · right
    obtain ⟨a, b, c⟩ := l
    split at h
    · rename_i r
      split at h
      · rename_i hc; injection h with h; subst h; simp only at hc; subst hc; exact ⟨Nat.le_refl _, .inl ⟨_, rfl, rfl⟩⟩
      · cases h
    · split at h
      · rename_i hc
        injection h with h; subst h
        simp only at hc
        obtain ⟨rfl, _⟩ := hc
        refine ⟨by simp only; omega, .inr ⟨rfl, ?_⟩⟩
        simp only [Prod.mk.injEq, true_and, and_true]
        omega
      · cases h
theorem lamE_keep {bx : Option Nat} {l : Lab} (h : Sp l ∨ (15000 ≤ l.1 ∧ l.1 < 19000)) : lamE bx l = some l := by unfold lamE; rw [if_pos h]

/-- What is left to be shown at the end. -/
theorem end_exi {bx : Option Nat} {rs : List Rv} {v : Value} (h : Rel N w0 g0 vs.toArray S tm w g) (hms : ∀ j row, ms[j]? = some row → S.get (15000 + j) = .mem (row.map .ow)) (hml : ms.length ≤ 1000) (hhs : ∀ q ∈ hs, S.get (16000 + q.1) = .hid q.2) (hhl : ∀ q ∈ hs, q.1 < 1000)
    (hb : ∀ r, bx = some r → 10000 ≤ r ∧ r < 15000) (hres : ResR (gren (lamE bx) g) w rs v) : Exi g0 w0 (gren (lamE bx) g) w vs rs ms hs v where
  inj := fun b k b' k' l h1 h2 => by
    obtain ⟨l1, a1, a2⟩ := gren_some h1
    obtain ⟨l2, b1, b2⟩ := gren_some h2
    have : l1 = l2 := by
      rcases lamE_some a2 with ⟨e1, z1⟩ | ⟨z1, e1⟩ <;> rcases lamE_some b2 with ⟨e2, z2⟩ | ⟨z2, e2⟩
      · rw [← e1, e2]
      · rw [e1] at z2; rcases z1 with (z1 | z1) | z1 <;> omega
      · rw [e2] at z1; rcases z2 with (z2 | z2) | z2 <;> omega
      · rcases e1 with ⟨r, e1, e3⟩ | ⟨e1, e3⟩ <;> rcases e2 with ⟨r', e2, e4⟩ | ⟨e2, e4⟩
        · rw [e1] at e2; injection e2 with e2; rw [e3, e4, e2]
        · rw [e1] at e2; cases e2
        · rw [e1] at e2; cases e2
        · rw [e3, e4]
    subst this
    exact h.inj _ _ _ _ _ a1 b1
  old := fun b k l h1 => by
    obtain ⟨l1, a1, _⟩ := gren_some h1
    exact h.old _ _ _ a1
  step := h.step
  none := fun b k hb hn => gren_none (h.none b k hb hn)
  sp := fun b k l hs => by
    rw [h.sp b k l hs]
    refine ⟨fun h1 => gren_of h1 (lamE_keep (.inl hs)), fun h1 => ?_⟩
    obtain ⟨l1, a1, a2⟩ := gren_some h1
    rcases lamE_some a2 with ⟨e1, z1⟩ | ⟨z1, e1⟩
    · rw [e1]; exact a1
    · rcases hs with hs | hs <;> omega
  outk := fun b k r o h1 h2 h3 => gren_of (h.outk b k r o h1 h2 h3) (lamE_keep (.inr ⟨h1, by simp only; omega⟩))
  res := hres
  mems := fun j row hj => by
    have hv := h.vars (15000 + j)
    rw [hms j row hj] at hv
    have hjl := (List.getElem?_eq_some_iff.1 hj).1
    have hkp : ∀ o q, lamE bx (15000 + j, o, q) = some (15000 + j, o, q) := fun o q => lamE_keep (.inr ⟨by simp only; omega, by simp only; omega⟩)
    obtain ⟨b, k0, arr, e, h1, h2, h3⟩ := hv
    refine ⟨b, k0, arr, e, h1, h2, fun o c hc => ?_⟩
    obtain ⟨q1, q2⟩ := h3 o c hc
    simp only [List.getElem?_map, Option.map_eq_some_iff] at hc
    obtain ⟨t, ht, rfl⟩ := hc
    exact ⟨gren_of q1 (hkp _ _), TR.ren q2 fun q hq => hkp _ _⟩
  hids := fun q hq => by
    have hv := h.vars (16000 + q.1)
    rw [hhs q hq] at hv
    have := hhl q hq
    exact ⟨hv.1, fun o c hc => TR.ren (hv.2 o c hc) fun s hs => lamE_keep (.inr ⟨by simp only; omega, by simp only; omega⟩)⟩

theorem end_val {K : List Key} {m : Nat} {agg : Bool} {row : List Cl} {v : Value} (h : ValR K g w 19000 (1000 * m) agg row v) (hro : roB row = true) (hl : row.length ≤ 1000) : ValR [] (gren (lamE none) g) w (30000 + m) 0 agg row v := by
  obtain ⟨q1, q2⟩ := h.cells
  refine ValR.of_cells h.shape q1 fun o c hc => ?_
  have hlt := (List.getElem?_eq_some_iff.1 hc).1
  have hcl := q2 o c hc
  rw [Nat.zero_add]
  cases c with
  | ow t =>
    refine TR.map hcl (Step.refl (fun _ _ => False) w) (fun b k _ hn => ⟨fun h => h, gren_none hn⟩) [] fun b k q _ hq hg => ⟨fun h => h, gren_of hg ?_⟩
    unfold lamE
    rw [if_neg (by rintro ((h | h) | h) <;> simp only at h <;> omega)]
    simp only [List.nil_append]
    rw [if_pos ⟨trivial, hq⟩, show (1000 * m + o) / 1000 = m by omega, show (1000 * m + o) % 1000 = o by omega]
  | vw pl ks t =>
    obtain ⟨rfl, rfl⟩ := roB_mem hro (List.mem_of_getElem? hc)
    refine ⟨hcl.1, fun _ => ⟨?_, by simp⟩⟩
    refine (hcl.2 (fun k hk => by cases hk)).1.map (Step.refl (fun _ _ => False) w) fun b k _ hl => ⟨fun h => h, ?_⟩
    rcases hl with hl | ⟨y, h1, h2⟩
    · exact .inl (gren_none hl)
    · have h2 : y.1 = 20002 := by rcases h2 with h2 | h2; exact h2; cases h2
      exact .inr ⟨y, gren_of h1 (lamE_keep (.inl (.inr h2))), .inl h2⟩

theorem initS_get (As : List A) (mems : List Row) (hids : List (Nat × Row)) (v : Nat) :
    (∃ a, As[v]? = some a ∧ (initS As mems hids).get v = a) ∨ (∃ j row, v = 15000 + j ∧ mems[j]? = some row ∧ (initS As mems hids).get v = .mem (row.map .ow)) ∨ (∃ q ∈ hids, v = 16000 + q.1 ∧ (initS As mems hids).get v = .hid q.2) ∨ (initS As mems hids).get v = .any := by
  have hH : ∀ hs : List (Nat × Row), (∃ q ∈ hs, v = 16000 + q.1 ∧ getL (hidS hs) v = .hid q.2) ∨ getL (hidS hs) v = .any := by
    intro hs
    induction hs with
    | nil => right; rfl
    | cons q l ih =>
      simp only [hidS, getL]
      by_cases e : v = 16000 + q.1
      · left; exact ⟨q, by simp, e, by rw [if_pos e]⟩
      · rw [if_neg e]
        rcases ih with ⟨q', h1, h2, h3⟩ | h
        · left; exact ⟨q', by simp [h1], h2, h3⟩
        · exact .inr h
  have hM : ∀ (ms : List Row) (s : Nat), (∃ j row, v = 15000 + (s + j) ∧ ms[j]? = some row ∧ getL (memS s ms ++ hidS hids) v = .mem (row.map .ow)) ∨ getL (memS s ms ++ hidS hids) v = getL (hidS hids) v := by
    intro ms
    induction ms with
    | nil => intro s; right; rfl
    | cons r l ih =>
      intro s
      simp only [memS, List.cons_append, getL]
      by_cases e : v = 15000 + s
      · left; exact ⟨0, r, by simpa using e, rfl, by rw [if_pos e]⟩
      · rw [if_neg e]
        rcases ih (s + 1) with ⟨j, row, h1, h2, h3⟩ | h
        · left; exact ⟨j + 1, row, by omega, by simpa using h2, h3⟩
        · exact .inr h
  have hA : ∀ (l : List A) (s : Nat), (∃ i a, v = s + i ∧ l[i]? = some a ∧ getL (argS s l ++ (memS 0 mems ++ hidS hids)) v = a) ∨ getL (argS s l ++ (memS 0 mems ++ hidS hids)) v = getL (memS 0 mems ++ hidS hids) v := by
    intro l
    induction l with
    | nil => intro s; right; rfl
    | cons a l ih =>
      intro s
      simp only [argS, List.cons_append, getL]
      by_cases e : v = s
      · left; exact ⟨0, a, by simpa using e, rfl, by rw [if_pos e]⟩
      · rw [if_neg e]
        rcases ih (s + 1) with ⟨i, a', h1, h2, h3⟩ | h
        · left; exact ⟨i + 1, a', by omega, by simpa using h2, h3⟩
        · exact .inr h
  rcases hA As 0 with ⟨i, a, h1, h2, h3⟩ | h
  · left
    have : v = i := by omega
    subst this
    exact ⟨a, h2, h3⟩
  · right
    rcases hM mems 0 with ⟨j, row, h1, h2, h3⟩ | h'
    · left; exact ⟨j, row, by omega, h2, h.trans h3⟩
    · right
      rcases hH hids with ⟨q, h1, h2, h3⟩ | h''
      · left; exact ⟨q, h1, h2, h.trans (h'.trans h3)⟩
      · exact .inr (h.trans (h'.trans h''))

theorem VarR.congr {K : List Key} {tm' : Array Value} {v : Nat} {a : A} (h : VarR K g w tm ar v a) (he : ∀ t, tm'.getD t undef = tm.getD t undef) : VarR K g w tm' ar v a := by
  cases a with
  | any => trivial
  | val agg row => simp only [VarR, he]; exact h
  | tup rs => simp only [VarR, he]; exact h
  | mem row => exact h
  | hid row => exact h
  | pr r o => simp only [VarR, he]; exact h
  | pe pl ks row => simp only [VarR, he]; exact h
  | fn f ks rows => simp only [VarR, he]; exact h
  | al m agg => simp only [VarR, he]; exact h

/-- What may be handed over. -/
def argB : A → Bool
  | .mem _ => false
  | _ => true
def hkB : List (Nat × Row) → Bool
  | [] => true
  | q :: l => decide (q.1 < 1000) && hkB l
theorem hkB_mem {l : List (Nat × Row)} (h : hkB l = true) : ∀ q ∈ l, q.1 < 1000 := by
  induction l with
  | nil => intro q hq; cases hq
  | cons x l ih =>
    simp only [hkB, Bool.and_eq_true, decide_eq_true_eq] at h
    intro q hq
    rcases List.mem_cons.1 hq with rfl | hq
    · exact h.1
    · exact ih h.2 q hq

theorem ent_rel (h : Ent g w As mems hids vs) (hN : As.length ≤ N) (hl : As.length ≤ 1000) (hm : mems.length ≤ 1000) (hh : hkB hids = true) (ha : As.all argB = true) :
    Rel N w g vs.toArray (initS As mems hids) (vs.toArray ++ Array.replicate (N - vs.toArray.size) undef) w g := by
  have htm : ∀ t, (vs.toArray ++ Array.replicate (N - vs.toArray.size) undef).getD t undef = vs.toArray.getD t undef := by
    intro t
    simp only [Array.getD_eq_getD_getElem?]
    by_cases ht : t < vs.toArray.size
    · rw [Array.getElem?_append_left ht]
    · rw [Array.getElem?_append_right (by omega), Array.getElem?_replicate, Array.getElem?_eq_none (show vs.toArray.size ≤ t by omega)]
      split <;> rfl
  refine ⟨by simp; have := h.len; omega, h.inj, h.old, Step.refl _ _, fun _ _ _ h => h, fun _ _ _ _ => Iff.rfl, fun _ _ _ _ _ _ h => h, fun b k l hl => ?_, fun v hv => ?_, fun v row hv => ?_, fun v => ?_⟩
  · rcases h.lab b k l hl with z | z
    · exact .inl z
    · exact .inr (.inr z)
  · rcases initS_get As mems hids v with ⟨a, h1, _⟩ | ⟨j, row, rfl, h1, _⟩ | ⟨q, h1, rfl, _⟩ | h2
    · have := (List.getElem?_eq_some_iff.1 h1).1; omega
    · have := (List.getElem?_eq_some_iff.1 h1).1; omega
    · have := hkB_mem hh q h1; omega
    · exact h2
  · rcases initS_get As mems hids v with ⟨a, h1, h2⟩ | ⟨j, row, rfl, h1, _⟩ | ⟨q, h1, rfl, _⟩ | h2
    · rw [h2]
      have := (List.all_eq_true.1 ha) a (List.mem_of_getElem? h1)
      rintro rfl; cases this
    · omega
    · omega
    · rw [h2]; simp
  · have hK : (initS As mems hids).k = [] := rfl
    rw [hK]
    rcases initS_get As mems hids v with ⟨a, h1, h2⟩ | ⟨j, row, rfl, h1, h2⟩ | ⟨q, h1, rfl, h2⟩ | h2
    · rw [h2]; exact (h.args v a h1).congr htm
    · rw [h2]; exact (h.mems j row h1).congr htm
    · rw [h2]; exact (h.hids q h1).congr htm
    · rw [h2]; trivial

theorem fn_sound {f : FuncId} {fn : Func} {code : Code} {x : ACode} {specs : List RS} (hfn : P.funcs[f]? = some fn) (hbody : fn.body = some code)
    (hN : fn.ntmps ≤ 10000) (hfit : cfit P fn.ntmps code x = true) (hrs : rsB P fn.results.toList specs = true)
    (ha : As.length ≤ fn.ntmps) (hl : As.length ≤ 1000) (hm : mems.length ≤ 1000) (hh : hkB hids = true) (haB : As.all argB = true) (hms : ms.length ≤ 1000) (hhs : hkB hs = true)
    (h : cwp P G x (fun e S => match e with | .exit _ => False | _ => exitA S specs mems.length (hids.map (·.1)) = some (rs, ms, hs)) (initS As mems hids)) : FnD P G f As mems hids rs ms hs := by
  intro w g vs hgl hent
  have hrel := ent_rel hent ha hl hm hh haB
  refine calls_of_wp hfn hbody ?_
  refine wp_mono (cwp_sound hN hgl x code _ _ g ⟨_, []⟩ w hfit hrel rfl h) fun e a' w' hq => ?_
  have hend : Good fn.ntmps w g vs.toArray (fun S => exitA S specs mems.length (hids.map (·.1)) = some (rs, ms, hs)) a' w' →
      a'.defers = [] ∧ ∃ v, (results fn a'.tmps).run P w' = .ok v w' ∧ ∃ v' g', Ending.returned v = .returned v' ∧ Exi g w g' w' vs rs ms hs v' := by
    rintro ⟨S, g1, hok, hr, hd⟩
    refine ⟨hd, ?_⟩
    unfold exitA at hok
    split at hok
    · rename_i q hbq
      split at hok
      · rename_i ms' hs' hme hhe
        simp only [Option.some.injEq, Prod.mk.injEq] at hok
        obtain ⟨rfl, rfl, rfl⟩ := hok
        unfold bxOut at hbq
        split at hbq
        · rename_i x
          split at hbq
          · rename_i r hx
            split at hbq
            · rename_i R hR
              split at hbq
              · rename_i hc
                simp only [Option.map_eq_some_iff] at hbq
                obtain ⟨ts, hts, rfl⟩ := hbq
                have hp := hr.vars x
                rw [hx] at hp
                obtain ⟨b, k, e1, e2⟩ := hp
                have hv := hr.vars r
                rw [hR] at hv
                obtain ⟨b1, k0, arr, e, y1, y2, y3⟩ := hv
                have hlam : ∀ o s, lamE (some r) (r, o, s) = some (30000, o, s) := fun o s => by
                  unfold lamE
                  rw [if_neg (by rintro ((h | h) | h) <;> simp only at h <;> omega)]
                  simp
                have hrun := run_results (P := P) (w := w') (tm := a'.tmps) hrs (vs := [a'.tmps.getD x undef]) rfl (fun i s hs => by
                  cases i with
                  | zero => simp at hs; subst hs; rfl
                  | succ i => simp at hs)
                refine ⟨_, hrun, _, gren (lamE (some r)) g1, rfl, end_exi hr (fun j row hj => by have := memsE_get hme j row hj; rwa [Nat.zero_add] at this) hms (hidsE_get hhe) (hkB_mem hhs) (fun r' e => by injection e with e; subst e; exact ⟨hc.1, hc.2.1⟩) ?_⟩
                refine ⟨b, k, e1, gren_of e2 (hlam _ _), by rw [rowT_len hts]; exact hc.2.2, b1, k0, arr, e, y1, by simp only [List.length_map]; rw [rowT_len hts]; exact y2, fun o c hcc => ?_⟩
                rw [← rowT_get hts] at hcc
                obtain ⟨z1, z2⟩ := y3 o c hcc
                refine ⟨gren_of z1 (hlam _ _), ?_⟩
                rw [rowT_get hts] at hcc
                simp only [List.getElem?_map, Option.map_eq_some_iff] at hcc
                obtain ⟨t, ht, rfl⟩ := hcc
                exact TR.map z2 (Step.refl (fun _ _ => False) w') (fun b k _ hn => ⟨fun h => h, gren_none hn⟩) [] fun b k q _ hq hg => ⟨fun h => h, gren_of hg (hlam _ _)⟩
              · cases hbq
            · cases hbq
          · cases hbq
        · cases hbq
      · cases hok
    · split at hok
      · rename_i rs' S1 hres
        split at hok
        · rename_i ms' hs' hme hhe
          simp only [Option.some.injEq, Prod.mk.injEq] at hok
          obtain ⟨rfl, rfl, rfl⟩ := hok
          obtain ⟨g2, k1, k2, k3, _⟩ := res_sound specs 0 S S1 rs' g1 hr hres
          have hvals : ∀ i, ∃ v, (∀ s, specs[i]? = some s → RS.val w' a'.tmps s v) ∧ ∀ r, rs'[i]? = some r → RvR (gren (lamE none) g2) w' i r v := by
            intro i
            cases hi : rs'[i]? with
            | none =>
              refine ⟨undef, fun s hs => ?_, fun r hr => by cases hr⟩
              have := (List.getElem?_eq_some_iff.1 hs).1
              rw [← k2] at this
              rw [List.getElem?_eq_getElem this] at hi; cases hi
            | some r =>
              have hlt := (List.getElem?_eq_some_iff.1 hi).1
              obtain ⟨agg, row, v, q1, q2, q3, q4, q5⟩ := k3 i r specs[i] hi (List.getElem?_eq_getElem (by omega))
              rw [Nat.zero_add] at q5
              refine ⟨v, fun s hs => ?_, fun r' hr' => ?_⟩
              · rw [List.getElem?_eq_getElem (by omega)] at hs; injection hs with hs; subst hs; exact q2
              · injection hr' with hr'; subst hr'; subst q1; exact end_val q5 q3 q4
          let val : Nat → Value := fun i => (hvals i).choose
          have hval := fun i => (hvals i).choose_spec
          let vs' := (List.range specs.length).map val
          have hget : ∀ i, i < specs.length → vs'.getD i undef = val i := fun i hi => by
            simp only [vs', List.getD_eq_getElem?_getD, List.getElem?_map]
            rw [List.getElem?_range hi]; rfl
          have hrun := run_results (P := P) (w := w') (tm := a'.tmps) hrs (vs := vs') (by simp [vs']) (fun i s hs => by
            rw [hget i (List.getElem?_eq_some_iff.1 hs).1]; exact (hval i).1 s hs)
          refine ⟨_, hrun, _, gren (lamE none) g2, rfl, end_exi k1 (fun j row hj => by have := memsE_get hme j row hj; rwa [Nat.zero_add] at this) hms (hidsE_get hhe) (hkB_mem hhs) (by simp) ?_⟩
          have hvl : vs'.length = rs'.length := by simp [vs', k2]
          have hrv : ∀ i r, rs'[i]? = some r → RvR (gren (lamE none) g2) w' i r (vs'.getD i undef) := fun i r hr => by
            rw [hget i (by rw [← k2]; exact (List.getElem?_eq_some_iff.1 hr).1)]; exact (hval i).2 r hr
          generalize vs' = us at hvl hrv
          match rs', us, hvl, hrv with
          | [], [], _, hrv => exact ⟨_, rfl, rfl, fun m r hm => by simp at hm⟩
          | [r], [u], _, hrv => exact hrv 0 r rfl
          | r :: r2 :: rs, u :: u2 :: us, hvl, hrv =>
            refine ⟨_, rfl, by simpa using hvl, fun m r' hm => ?_⟩
            have := hrv m r' hm
            rwa [List.getD_eq_getElem?_getD, ← List.getElem?_toArray, ← Array.getD_eq_getD_getElem?] at this
        · cases hok
      · cases hok
  cases e with
  | normal => exact hend hq
  | ret => exact hend hq
  | exit id => obtain ⟨S, _, h, _⟩ := hq; exact h.elim
  | goto l => exact hq.elim
  | panic ch => exact hq.elim
  | outgrown => exact hq.elim
end Go.Eng

namespace Go.Eng
variable {P : Program} {G : Glob} {S S' : St}

theorem eev_mono {x : EOp} {S : St} {K K' : St → Prop} (h : match eev S x with | some (c, S') => c ∧ K S' | none => False) (hk : ∀ S, K S → K' S) : (match eev S x with | some (c, S') => c ∧ K' S' | none => False) := by
  split at h
  · exact ⟨h.1, hk _ h.2⟩
  · exact h
theorem owp_mono {x : EOp} {S : St} {K K' : St → Prop} (h : owp P G x S K) (hk : ∀ S, K S → K' S) : owp P G x S K' := by
  cases x with
  | call d f args =>
    simp only [owp] at h ⊢
    split at h
    · obtain ⟨h1, h2, h3, h4, rs, ms, hs, h5, h6, h7, h8⟩ := h
      refine ⟨h1, h2, h3, h4, rs, ms, hs, h5, h6, h7, ?_⟩
      split at h8
      · exact hk _ h8
      · exact h8
    · exact h
  | no d => simp only [owp, eev] at h
  | _ => simp only [owp] at h ⊢; exact eev_mono h hk
theorem rwp_mono {K K' : St → Prop} (hk : ∀ S, K S → K' S) : ∀ (l : List AO) (S : St), rwp P G l S K → rwp P G l S K' := by
  intro l
  induction l with
  | nil => intro S h; exact hk _ h
  | cons x l ih =>
    intro S h
    simp only [rwp] at h ⊢
    split
    · rename_i hg; rw [hg] at h; exact owp_mono h fun S' => ih S'
    · rename_i s b hg
      rw [hg] at h
      simp only at h
      split at h
      · exact ⟨fun e => owp_mono (h.1 e) fun S' => ih S', fun e => ih _ (h.2 e)⟩
      · exact h
theorem sAny_mono {K K' : St → Prop} (hk : ∀ S, K S → K' S) {l : List AO} : ∀ (n : Nat) (done : List Nat) (S : St), sAny P G l n done S K → sAny P G l n done S K' := by
  intro n
  induction n with
  | zero => intro done S h; exact hk _ h
  | succ n ih => intro done S h i x h1 h2 h3; exact rwp_mono (fun S' => ih _ S') _ _ (h i x h1 h2 h3)
theorem atEnd_mono {K K' : St → Prop} {kp : List Nat} (h : atEnd S kp K) (hk : ∀ S, K S → K' S) : atEnd S kp K' := ⟨h.1, hk _ h.2⟩
theorem cwp_mono : ∀ {x : ACode} {Q Q' : AEx → St → Prop} {S : St}, cwp P G x Q S → (∀ e S, Q e S → Q' e S) → cwp P G x Q' S := by
  intro x
  induction x with
  | skip => intro Q Q' S h hq; exact hq _ _ h
  | ret => intro Q Q' S h hq; exact hq _ _ h
  | exit id l => intro Q Q' S h hq; exact atEnd_mono h fun S => hq _ S
  | reg b ops l =>
    intro Q Q' S h hq
    cases b with
    | false => simp only [cwp] at h ⊢; exact rwp_mono (fun S' h => atEnd_mono h fun S => hq _ S) _ _ h
    | true => simp only [cwp] at h ⊢; exact sAny_mono (fun S' h => atEnd_mono h fun S => hq _ S) _ _ _ h
  | seq a b iha ihb =>
    intro Q Q' S h hq
    simp only [cwp] at h ⊢
    refine iha h fun e S' h => ?_
    cases e with
    | normal => exact ihb h hq
    | exit i => exact hq _ _ h
    | ret => exact hq _ _ h
  | cond c a b iha ihb =>
    intro Q Q' S h hq
    simp only [cwp] at h ⊢
    split at h
    · exact ⟨fun e => iha (h.1 e) hq, fun e => ihb (h.2 e) hq⟩
    · exact h
  | block id a ih =>
    intro Q Q' S h hq
    simp only [cwp] at h ⊢
    refine ih h fun e S' h => ?_
    cases e with
    | normal => exact hq _ _ h
    | exit i =>
      simp only at h ⊢
      split
      · rename_i e; rw [if_pos e] at h; exact hq _ _ h
      · rename_i e; rw [if_neg e] at h; exact hq _ _ h
    | ret => exact hq _ _ h
  | loop l a ih =>
    intro Q Q' S h hq
    simp only [cwp] at h ⊢
    obtain ⟨I, μ, h1, h2⟩ := h
    refine ⟨I, μ, h1, fun S' hS => ih (h2 S' hS) fun e S'' h => ?_⟩
    cases e with
    | normal => exact h
    | exit i => exact hq _ _ h
    | ret => exact hq _ _ h

/-! ### Named continuations -/
def seqQ (P : Program) (G : Glob) (b : ACode) (Q : AEx → St → Prop) : AEx → St → Prop
  | .normal, S => cwp P G b Q S
  | .exit i, S => Q (.exit i) S
  | .ret, S => Q .ret S
def blkQ (id : Nat) (Q : AEx → St → Prop) : AEx → St → Prop
  | .normal, S => Q .normal S
  | .exit i, S => if i = id then Q .normal S else Q (.exit i) S
  | .ret, S => Q .ret S
def endQ (specs : List RS) (n : Nat) (hk : List Nat) (r : List Rv × List Row × List (Nat × Row)) : AEx → St → Prop
  | .exit _, _ => False
  | .normal, S => exitA S specs n hk = some r
  | .ret, S => exitA S specs n hk = some r
def loopQ {ι : Type} (T : ι → St) (J : ι → Prop) (m : ι → Nat) (n : Nat) (l : List Nat) (Q : AEx → St → Prop) : AEx → St → Prop
  | .normal, S => S.keeps l = true ∧ ∃ t, S.norm l = T t ∧ J t ∧ m t < n
  | .exit i, S => Q (.exit i) S
  | .ret, S => Q .ret S
def cnd (P : Program) (G : Glob) (a b : ACode) (Q : AEx → St → Prop) (S : St) : Option Value → Prop
  | some (.bool t) => (t = true → cwp P G a Q S) ∧ (t = false → cwp P G b Q S)
  | _ => False
def opK (P : Program) (G : Glob) (l : List AO) (K : St → Prop) : Option (Prop × St) → Prop
  | some (c, S') => c ∧ rwp P G l S' K
  | none => False
def gdK (P : Program) (G : Glob) (b : Bool) (x : EOp) (l : List AO) (S : St) (K : St → Prop) : Option Value → Prop
  | some v => (v = .bool b → rwp P G (⟨none, x, []⟩ :: l) S K) ∧ (v ≠ .bool b → rwp P G l (skipPut S x.dst) K)
  | none => False
def endK (kp : List Nat) (Q : AEx → St → Prop) (S : St) : Prop := S.keeps kp = true ∧ Q .normal (S.norm kp)

theorem cwp_seq (a b : ACode) (Q : AEx → St → Prop) (S : St) : cwp P G (.seq a b) Q S = cwp P G a (seqQ P G b Q) S := by
  simp only [cwp]
  congr 1
  funext e S'
  cases e <;> rfl
theorem cwp_block (id : Nat) (a : ACode) (Q : AEx → St → Prop) (S : St) : cwp P G (.block id a) Q S = cwp P G a (blkQ id Q) S := by
  simp only [cwp]
  congr 1
  funext e S'
  cases e <;> rfl
theorem cwp_skip (Q : AEx → St → Prop) (S : St) : cwp P G .skip Q S = Q .normal S := rfl
theorem cwp_ret (Q : AEx → St → Prop) (S : St) : cwp P G .ret Q S = Q .ret S := rfl
theorem cwp_exit (id : Nat) (l : List Nat) (Q : AEx → St → Prop) (S : St) : cwp P G (.exit id l) Q S = (S.keeps l = true ∧ Q (.exit id) (S.norm l)) := rfl
theorem cwp_reg (ops : List AO) (l : List Nat) (Q : AEx → St → Prop) (S : St) : cwp P G (.reg false ops l) Q S = rwp P G ops S (endK l Q) := rfl
theorem cwp_drw (ops : List AO) (l : List Nat) (Q : AEx → St → Prop) (S : St) : cwp P G (.reg true ops l) Q S = sAny P G ops ops.length [] S (endK l Q) := rfl
theorem cwp_cond (c : Opd) (a b : ACode) (Q : AEx → St → Prop) (S : St) : cwp P G (.cond c a b) Q S = cnd P G a b Q S (lit1 c S.get) := by
  simp only [cwp, cnd]
  generalize lit1 c S.get = u
  rcases u with _ | v
  · rfl
  · cases v <;> rfl
theorem rwp_nil (S : St) (kp : List Nat) (Q : AEx → St → Prop) : rwp P G [] S (endK kp Q) = (S.keeps kp = true ∧ Q .normal (S.norm kp)) := rfl
def isCall : EOp → Bool
  | .call _ _ _ => true
  | .p _ _ => false
  | .asg _ _ => false
  | .tk _ _ => false
  | .box _ _ => false
  | .alloc _ _ => false
  | .st _ _ _ => false
  | .bsl _ _ _ => false
  | .build _ _ _ => false
  | .app _ _ _ _ _ => false
  | .ext _ _ _ => false
  | .mks _ _ _ _ _ => false
  | .no _ => false
  | .bsv _ _ _ => false
theorem rwp_op (x : EOp) (af : List Nat) (l : List AO) (S : St) (K : St → Prop) (h : isCall x = false) : rwp P G (⟨none, x, af⟩ :: l) S K = opK P G l K (eev S x) := by
  simp only [rwp]
  cases x with
  | call d f args => simp [isCall] at h
  | _ =>
    simp only [owp]
    generalize eev S _ = u
    cases u <;> rfl
theorem rwp_gd (s : Nat) (b : Bool) (x : EOp) (af : List Nat) (l : List AO) (S : St) (K : St → Prop) : rwp P G (⟨some (s, b), x, af⟩ :: l) S K = gdK P G b x l S K (gvA S.get s (S.get s)) := by
  show rwp P G (⟨some (s, b), x, af⟩ :: l) S K = gdK P G b x l S K (gv S.get s)
  simp only [rwp, gdK]
  generalize gv S.get s = u
  cases u <;> rfl
theorem gvA_val (f : Nat → A) (s : Nat) (b : Bool) (row : List Cl) : gvA f s (.val b row) = lit1 (.t s) f := rfl
theorem gvA_tup (f : Nat → A) (s : Nat) : gvA f s (.tup []) = some (.tuple #[]) := rfl
theorem opK_some (l : List AO) (K : St → Prop) (c : Prop) (S' : St) : opK P G l K (some (c, S')) = (c ∧ rwp P G l S' K) := rfl
theorem gd_tt (x : EOp) (l : List AO) (S : St) (K : St → Prop) : gdK P G true x l S K (some (.bool true)) = rwp P G (⟨none, x, []⟩ :: l) S K := by simp [gdK]
theorem gd_ff (x : EOp) (l : List AO) (S : St) (K : St → Prop) : gdK P G false x l S K (some (.bool false)) = rwp P G (⟨none, x, []⟩ :: l) S K := by simp [gdK]
theorem gd_tf (x : EOp) (l : List AO) (S : St) (K : St → Prop) : gdK P G true x l S K (some (.bool false)) = rwp P G l (skipPut S x.dst) K := by simp [gdK]
theorem gd_ft (x : EOp) (l : List AO) (S : St) (K : St → Prop) : gdK P G false x l S K (some (.bool true)) = rwp P G l (skipPut S x.dst) K := by simp [gdK]
theorem cnd_t (a b : ACode) (Q : AEx → St → Prop) (S : St) : cnd P G a b Q S (some (.bool true)) = cwp P G a Q S := by simp [cnd]
theorem cnd_f (a b : ACode) (Q : AEx → St → Prop) (S : St) : cnd P G a b Q S (some (.bool false)) = cwp P G b Q S := by simp [cnd]
theorem cnd_dec {a b : ACode} {Q : AEx → St → Prop} {S : St} {c : Prop} [Decidable c] (h1 : c → cwp P G a Q S) (h2 : ¬ c → cwp P G b Q S) : cnd P G a b Q S (some (.bool (decide c))) :=
  ⟨fun h => h1 (of_decide_eq_true h), fun h => h2 (of_decide_eq_false h)⟩
theorem cnd_bool {a b : ACode} {Q : AEx → St → Prop} {S : St} {c : Bool} (h1 : c = true → cwp P G a Q S) (h2 : c = false → cwp P G b Q S) : cnd P G a b Q S (some (.bool c)) := ⟨h1, h2⟩
theorem gd_u (b : Bool) (x : EOp) (l : List AO) (S : St) (K : St → Prop) : gdK P G b x l S K (some (.tuple #[])) = rwp P G l (skipPut S x.dst) K := by simp [gdK]
theorem gd_dec {x : EOp} {l : List AO} {S : St} {K : St → Prop} {b : Bool} {c : Prop} [Decidable c] (h1 : decide c = b → rwp P G (⟨none, x, []⟩ :: l) S K) (h2 : decide c ≠ b → rwp P G l (skipPut S x.dst) K) : gdK P G b x l S K (some (.bool (decide c))) := ⟨fun h => h1 (by simpa using h), fun h => h2 fun e => h (by rw [e])⟩
theorem seqQ_n (b : ACode) (Q : AEx → St → Prop) (S : St) : seqQ P G b Q .normal S = cwp P G b Q S := rfl
theorem seqQ_e (b : ACode) (Q : AEx → St → Prop) (i : Nat) (S : St) : seqQ P G b Q (.exit i) S = Q (.exit i) S := rfl
theorem seqQ_r (b : ACode) (Q : AEx → St → Prop) (S : St) : seqQ P G b Q .ret S = Q .ret S := rfl
theorem blkQ_n (id : Nat) (Q : AEx → St → Prop) (S : St) : blkQ id Q .normal S = Q .normal S := rfl
theorem blkQ_e (id : Nat) (Q : AEx → St → Prop) (i : Nat) (S : St) : blkQ id Q (.exit i) S = if i = id then Q .normal S else Q (.exit i) S := rfl
theorem blkQ_r (id : Nat) (Q : AEx → St → Prop) (S : St) : blkQ id Q .ret S = Q .ret S := rfl
theorem loopQ_n {ι : Type} (T : ι → St) (J : ι → Prop) (m : ι → Nat) (n : Nat) (l : List Nat) (Q : AEx → St → Prop) (S : St) : loopQ T J m n l Q .normal S = (S.keeps l = true ∧ ∃ t, S.norm l = T t ∧ J t ∧ m t < n) := rfl
theorem loopQ_e {ι : Type} (T : ι → St) (J : ι → Prop) (m : ι → Nat) (n : Nat) (l : List Nat) (Q : AEx → St → Prop) (i : Nat) (S : St) : loopQ T J m n l Q (.exit i) S = Q (.exit i) S := rfl
theorem loopQ_r {ι : Type} (T : ι → St) (J : ι → Prop) (m : ι → Nat) (n : Nat) (l : List Nat) (Q : AEx → St → Prop) (S : St) : loopQ T J m n l Q .ret S = Q .ret S := rfl
theorem endQ_n (specs : List RS) (n : Nat) (hk : List Nat) (r : List Rv × List Row × List (Nat × Row)) (S : St) : endQ specs n hk r .normal S = (exitA S specs n hk = some r) := rfl
theorem endQ_r (specs : List RS) (n : Nat) (hk : List Nat) (r : List Rv × List Row × List (Nat × Row)) (S : St) : endQ specs n hk r .ret S = (exitA S specs n hk = some r) := rfl

/-- A region in two: at its end the states of T. -/
theorem cwp_cut {ι : Type} (T : ι → St) (J : ι → Prop) {a b : ACode} {Q : AEx → St → Prop} {S : St}
    (h1 : cwp P G a (fun e S' => match e with | .normal => ∃ t, S' = T t ∧ J t | .exit i => Q (.exit i) S' | .ret => Q .ret S') S) (h2 : ∀ t, J t → cwp P G b Q (T t)) : cwp P G (.seq a b) Q S := by
  rw [cwp_seq]
  refine cwp_mono h1 fun e S' h => ?_
  cases e with
  | normal => obtain ⟨t, rfl, hj⟩ := h; exact h2 t hj
  | exit i => exact h
  | ret => exact h
theorem least {p : Nat → Prop} (h : ∃ n, p n) : ∃ n, p n ∧ ∀ k, p k → n ≤ k := by
  obtain ⟨n, h⟩ := h
  induction n using Nat.strongRecOn with
  | _ n ih =>
    by_cases hk : ∃ k, k < n ∧ p k
    · obtain ⟨k, h1, h2⟩ := hk; exact ih k h1 h2
    · exact ⟨n, h, fun k hp => Nat.le_of_not_lt fun hlt => hk ⟨k, hlt, hp⟩⟩
theorem cwp_loop {ι : Type} (T : ι → St) (J : ι → Prop) (m : ι → Nat) (s : ι) {l : List Nat} {a : ACode} {Q : AEx → St → Prop} {S : St} (hk : S.keeps l = true) (h0 : S.norm l = T s) (hj : J s)
    (h : ∀ t, J t → cwp P G a (loopQ T J m (m t) l Q) (T t)) : cwp P G (.loop l a) Q S := by
  let H : St → Nat → Prop := fun S n => ∃ t, J t ∧ S = T t ∧ m t = n
  have hc : ∀ S, ∃ n, (∃ k, H S k) → H S n ∧ ∀ k, H S k → n ≤ k := fun S => by
    by_cases h : ∃ k, H S k
    · obtain ⟨n, h1⟩ := least h; exact ⟨n, fun _ => h1⟩
    · exact ⟨0, fun h' => absurd h' h⟩
  let μ : St → Nat := fun S => Classical.choose (hc S)
  have hμ : ∀ S, (∃ k, H S k) → H S (μ S) ∧ ∀ k, H S k → μ S ≤ k := fun S => Classical.choose_spec (hc S)
  refine ⟨fun S => ∃ t, J t ∧ S = T t, μ, ⟨hk, s, hj, h0⟩, ?_⟩
  rintro S' ⟨t0, hj0, rfl⟩
  obtain ⟨⟨t, hjt, hT, hm⟩, _⟩ := hμ (T t0) ⟨_, t0, hj0, rfl, rfl⟩
  have hb := h t hjt
  rw [← hT] at hb
  refine cwp_mono hb fun e S'' hq => ?_
  cases e with
  | normal =>
    obtain ⟨hk', t', h1, h2, h3⟩ := hq
    have hin : H (S''.norm l) (m t') := ⟨t', h2, h1, rfl⟩
    refine ⟨hk', ⟨t', h2, h1⟩, ?_⟩
    rw [← hm]
    exact Nat.lt_of_le_of_lt ((hμ _ ⟨_, hin⟩).2 _ hin) h3
  | exit i => exact hq
  | ret => exact hq

theorem fn_ok {f : FuncId} {fn : Func} {code : Code} {x : ACode} {specs : List RS} {As : List A} {mems ms : List Row} {hids hs : List (Nat × Row)} {rs : List Rv} (hfn : P.funcs[f]? = some fn) (hbody : fn.body = some code)
    (hN : fn.ntmps ≤ 10000) (hfit : cfit P fn.ntmps code x = true) (hrs : rsB P fn.results.toList specs = true)
    (ha : As.length ≤ fn.ntmps) (hl : As.length ≤ 1000) (hm : mems.length ≤ 1000) (hh : hkB hids = true) (haB : As.all argB = true) (hms : ms.length ≤ 1000) (hhs : hkB hs = true)
    (h : cwp P G x (endQ specs mems.length (hids.map (·.1)) (rs, ms, hs)) (initS As mems hids)) : FnD P G f As mems hids rs ms hs :=
  fn_sound hfn hbody hN hfit hrs ha hl hm hh haB hms hhs (cwp_mono h fun e S h => by cases e <;> exact h)
end Go.Eng

namespace Go.Eng
abbrev emp : ByteArray := ByteArray.empty
/-- A string of such bytes. -/
def bs (l : List Nat) : ByteArray := ⟨(l.map UInt8.ofNat).toArray⟩
theorem bv_add (k : IntKind) (a b : Int) : binV .add (.int k a) (.int k b) = some (True, .int k (k.wrap (a + b))) := by simp [binV]
theorem bv_sub (k : IntKind) (a b : Int) : binV .sub (.int k a) (.int k b) = some (True, .int k (k.wrap (a - b))) := by simp [binV]
theorem bv_mul (k : IntKind) (a b : Int) : binV .mul (.int k a) (.int k b) = some (True, .int k (k.wrap (a * b))) := by simp [binV]
theorem bv_quo (k : IntKind) (a b : Int) : binV .quo (.int k a) (.int k b) = some (b ≠ 0, .int k (k.wrap (a.tdiv b))) := by simp [binV]
theorem bv_rem (k : IntKind) (a b : Int) : binV .rem (.int k a) (.int k b) = some (b ≠ 0, .int k (a.tmod b)) := by simp [binV]
theorem bv_and (k : IntKind) (a b : Int) : binV .and (.int k a) (.int k b) = some (True, .int k (k.wrap (BitVec.ofInt k.bits a &&& BitVec.ofInt k.bits b).toNat)) := by simp [binV]
theorem bv_or (k : IntKind) (a b : Int) : binV .or (.int k a) (.int k b) = some (True, .int k (k.wrap (BitVec.ofInt k.bits a ||| BitVec.ofInt k.bits b).toNat)) := by simp [binV]
theorem bv_xor (k : IntKind) (a b : Int) : binV .xor (.int k a) (.int k b) = some (True, .int k (k.wrap (BitVec.ofInt k.bits a ^^^ BitVec.ofInt k.bits b).toNat)) := by simp [binV]
theorem bv_shr (k j : IntKind) (a b : Int) : binV .shr (.int k a) (.int j b) = some (0 ≤ b, .int k (a.fdiv (2 ^ min b.toNat k.bits))) := rfl
theorem bv_shl (k j : IntKind) (a b : Int) : binV .shl (.int k a) (.int j b) = some (0 ≤ b, .int k (k.wrap (a * 2 ^ min b.toNat k.bits))) := rfl
theorem bv_eql (k : IntKind) (a b : Int) : binV .eql (.int k a) (.int k b) = some (True, .bool (decide (a = b))) := by simp [binV]; rfl
theorem bv_neq (k : IntKind) (a b : Int) : binV .neq (.int k a) (.int k b) = some (True, .bool (decide (a ≠ b))) := by simp [binV]; rfl
theorem bv_lss (k : IntKind) (a b : Int) : binV .lss (.int k a) (.int k b) = some (True, .bool (decide (a < b))) := by simp [binV]
theorem bv_leq (k : IntKind) (a b : Int) : binV .leq (.int k a) (.int k b) = some (True, .bool (decide (a ≤ b))) := by simp [binV]
theorem bv_gtr (k : IntKind) (a b : Int) : binV .gtr (.int k a) (.int k b) = some (True, .bool (decide (b < a))) := by simp [binV]
theorem bv_geq (k : IntKind) (a b : Int) : binV .geq (.int k a) (.int k b) = some (True, .bool (decide (b ≤ a))) := by simp [binV]
theorem bv_sadd (a b : ByteArray) : binV .add (.string a) (.string b) = some (a.size + b.size ≤ 9223372036854775807, .string (a ++ b)) := rfl
theorem toList_inj {a b : ByteArray} : a.toList = b.toList ↔ a = b := by
  rw [ByteArray.toList_eq, ByteArray.toList_eq]
  exact ⟨fun h => by cases a; cases b; simp only [Array.toList_inj] at h; exact congrArg ByteArray.mk h, fun h => by rw [h]⟩
theorem bv_seql (a b : ByteArray) : binV .eql (.string a) (.string b) = some (True, .bool (decide (a = b))) := by
  simp only [binV]
  congr 3
  rw [Bool.eq_iff_iff]; simp [toList_inj]
theorem bv_sneq (a b : ByteArray) : binV .neq (.string a) (.string b) = some (True, .bool (decide (a ≠ b))) := by
  simp only [binV]
  congr 3
  rw [Bool.eq_iff_iff]; simp [toList_inj]
theorem bv_slss (a b : ByteArray) : binV .lss (.string a) (.string b) = some (True, .bool (Op.bytesLess a.toList b.toList)) := rfl
theorem bv_sleq (a b : ByteArray) : binV .leq (.string a) (.string b) = some (True, .bool (Op.bytesLess a.toList b.toList || (a.toList == b.toList))) := rfl
theorem bv_sgtr (a b : ByteArray) : binV .gtr (.string a) (.string b) = some (True, .bool (!(Op.bytesLess a.toList b.toList || (a.toList == b.toList)))) := rfl
theorem bv_sgeq (a b : ByteArray) : binV .geq (.string a) (.string b) = some (True, .bool (!Op.bytesLess a.toList b.toList)) := rfl
theorem uv_neg (k : IntKind) (n : Int) : unV .neg (.int k n) = some (.int k (k.wrap (0 - n))) := rfl
theorem uv_not (b : Bool) : unV .not (.bool b) = some (.bool (!b)) := rfl
theorem nd (p : Prop) [Decidable p] : (!decide p) = decide (¬ p) := by simp

theorem get_mk (l : List (Nat × A)) (k : List Key) (v : Nat) : St.get ⟨l, k⟩ v = getL l v := rfl
theorem set_mk (l : List (Nat × A)) (k : List Key) (d : Nat) (a : A) : St.set ⟨l, k⟩ d a = ⟨(d, a) :: l, okeys d (getL l d) ++ k⟩ := rfl
theorem put_mk (l : List (Nat × A)) (k : List Key) (d : Nat) (a : A) : St.put ⟨l, k⟩ d a = ⟨(d, a) :: l, k⟩ := rfl
theorem kl_mk (l : List (Nat × A)) (k ks : List Key) : St.kl ⟨l, k⟩ ks = ⟨l, ks ++ k⟩ := rfl
theorem norm_mk (l : List (Nat × A)) (k : List Key) (kp : List Nat) : St.norm ⟨l, k⟩ kp = ⟨nmL ⟨l, k⟩ kp kp, []⟩ := rfl
theorem nmL_nil (S : St) (kp : List Nat) : nmL S kp [] = [] := rfl
theorem nmL_cons (l : List (Nat × A)) (K : List Key) (kp : List Nat) (k : Nat) (r : List Nat) : nmL ⟨l, K⟩ kp (k :: r) = (k, nmA K kp (getL l k)) :: nmL ⟨l, K⟩ kp r := rfl
theorem keeps_mk (l : List (Nat × A)) (k : List Key) (kp : List Nat) : St.keeps ⟨l, k⟩ kp = keepsL kp l := rfl
theorem getD_map {α : Type} {xs : List α} {f : α → Row} {i : Nat} (h : i < xs.length) : (xs.map f).getD i [] = f xs[i] := by
  rw [List.getD_eq_getElem?_getD, List.getElem?_map, List.getElem?_eq_getElem h]; rfl
theorem wrap64 {n : Int} (h1 : -9223372036854775808 ≤ n) (h2 : n ≤ 9223372036854775807) : IntKind.wrap .i64 n = n := by
  rw [IntKind.wrap_i64]; omega
theorem initS_mk (As : List A) (mems : List Row) (hids : List (Nat × Row)) : initS As mems hids = ⟨argS 0 As ++ (memS 0 mems ++ hidS hids), []⟩ := rfl
theorem keyB_nil (K : List Key) : keyB K [] = true := rfl
theorem keyB_cons (K : List Key) (k : Key) (l : List Key) : keyB K (k :: l) = (!(K.elem k) && decide (k.1 < 19000) && keyB K l) := rfl
theorem elem_nil' (k : Key) : List.elem k [] = false := rfl
theorem elem_cons' (a b c d : Nat) (l : List Key) : List.elem (a, b) ((c, d) :: l) = ((a == c && b == d) || List.elem (a, b) l) := by
  rw [List.elem_cons]
  cases h : ((a, b) == (c, d)) with
  | true => simp at h; simp [h]
  | false =>
    have : (a == c && b == d) = false := by
      cases h2 : (a == c && b == d) with
      | false => rfl
      | true => simp at h2; simp [h2] at h
    rw [this]; rfl
theorem elemN_nil (k : Nat) : List.elem k [] = false := rfl
theorem elemN_cons (a c : Nat) (l : List Nat) : List.elem a (c :: l) = ((a == c) || List.elem a l) := by
  rw [List.elem_cons]; cases h : (a == c) <;> rfl
theorem nmKs_nil (kp : List Nat) : nmKs kp [] = [] := rfl
theorem nmKs_cons (kp : List Nat) (k : Key) (l : List Key) : nmKs kp (k :: l) = if kp.elem k.1 then k :: nmKs kp l else nmKs kp l := by simp [nmKs, List.filter_cons]
section
variable {P : Program} {G : Glob}
theorem rwp_p (d : Nat) (x : POp) (af : List Nat) (l : List AO) (S : St) (K : St → Prop) : rwp P G (⟨none, .p d x, af⟩ :: l) S K = opK P G l K (eev S (.p d x)) := rwp_op _ _ _ _ _ rfl
theorem rwp_asg (d : Nat) (x : Opd) (af : List Nat) (l : List AO) (S : St) (K : St → Prop) : rwp P G (⟨none, .asg d x, af⟩ :: l) S K = opK P G l K (eev S (.asg d x)) := rwp_op _ _ _ _ _ rfl
theorem rwp_tk (d : Nat) (x : Opd) (af : List Nat) (l : List AO) (S : St) (K : St → Prop) : rwp P G (⟨none, .tk d x, af⟩ :: l) S K = opK P G l K (eev S (.tk d x)) := rwp_op _ _ _ _ _ rfl
theorem rwp_box (d : Nat) (x : Opd) (af : List Nat) (l : List AO) (S : St) (K : St → Prop) : rwp P G (⟨none, .box d x, af⟩ :: l) S K = opK P G l K (eev S (.box d x)) := rwp_op _ _ _ _ _ rfl
theorem rwp_alloc (d : Nat) (z : List Kc) (af : List Nat) (l : List AO) (S : St) (K : St → Prop) : rwp P G (⟨none, .alloc d z, af⟩ :: l) S K = opK P G l K (eev S (.alloc d z)) := rwp_op _ _ _ _ _ rfl
theorem rwp_st (a x : Opd) (n : Nat) (af : List Nat) (l : List AO) (S : St) (K : St → Prop) : rwp P G (⟨none, .st a x n, af⟩ :: l) S K = opK P G l K (eev S (.st a x n)) := rwp_op _ _ _ _ _ rfl
theorem rwp_bsl (d sz : Nat) (ps : List Opd) (af : List Nat) (l : List AO) (S : St) (K : St → Prop) : rwp P G (⟨none, .bsl d sz ps, af⟩ :: l) S K = opK P G l K (eev S (.bsl d sz ps)) := rwp_op _ _ _ _ _ rfl
theorem rwp_build (d : Nat) (z : List Kc) (ps : List (Nat × Nat × Opd)) (af : List Nat) (l : List AO) (S : St) (K : St → Prop) : rwp P G (⟨none, .build d z ps, af⟩ :: l) S K = opK P G l K (eev S (.build d z ps)) := rwp_op _ _ _ _ _ rfl
theorem rwp_app (d : Nat) (x y : Opd) (sz bytes : Nat) (af : List Nat) (l : List AO) (S : St) (K : St → Prop) : rwp P G (⟨none, .app d x y sz bytes, af⟩ :: l) S K = opK P G l K (eev S (.app d x y sz bytes)) := rwp_op _ _ _ _ _ rfl
theorem rwp_ext (d x m : Nat) (af : List Nat) (l : List AO) (S : St) (K : St → Prop) : rwp P G (⟨none, .ext d x m, af⟩ :: l) S K = opK P G l K (eev S (.ext d x m)) := rwp_op _ _ _ _ _ rfl
theorem rwp_mks (d : Nat) (n m : Opd) (z : List Kc) (bytes : Nat) (af : List Nat) (l : List AO) (S : St) (K : St → Prop) : rwp P G (⟨none, .mks d n m z bytes, af⟩ :: l) S K = opK P G l K (eev S (.mks d n m z bytes)) := rwp_op _ _ _ _ _ rfl
theorem rwp_bsv (d sz : Nat) (ps : List Opd) (af : List Nat) (l : List AO) (S : St) (K : St → Prop) : rwp P G (⟨none, .bsv d sz ps, af⟩ :: l) S K = opK P G l K (eev S (.bsv d sz ps)) := rwp_op _ _ _ _ _ rfl
end
attribute [push_cast] bv_add bv_sub bv_mul bv_quo bv_rem bv_and bv_or bv_xor bv_shr bv_shl bv_eql bv_neq bv_lss bv_leq bv_gtr bv_geq bv_sadd bv_seql bv_sneq bv_slss bv_sleq bv_sgtr bv_sgeq uv_neg uv_not nd
attribute [push_cast] List.modify_zero_cons List.modify_succ_cons eq_self iff_self Option.some.injEq Nat.le_refl List.take_length
attribute [push_cast] get_mk set_mk put_mk kl_mk norm_mk nmL_nil nmL_cons keeps_mk initS_mk keyB_nil keyB_cons elem_nil' elem_cons' elemN_nil elemN_cons nmKs_nil nmKs_cons
attribute [push_cast] cwp_seq cwp_block cwp_skip cwp_ret cwp_exit cwp_reg cwp_drw cwp_cond rwp_nil rwp_p rwp_asg rwp_tk rwp_box rwp_alloc rwp_st rwp_bsl rwp_build rwp_app rwp_ext rwp_mks rwp_bsv rwp_gd opK_some gd_tt gd_ff gd_tf gd_ft gd_u gvA_val gvA_tup cnd_t cnd_f seqQ_n seqQ_e seqQ_r blkQ_n blkQ_e blkQ_r loopQ_n loopQ_e loopQ_r endQ_n endQ_r
attribute [push_cast] isCall eev pev getL argS memS hidS okeys okeysR okeysT ownC lit1 Opd.ev intA bndA vrow mvX mvA copyA vwRow vwTup vwC Cl.tree Kc.cl Kc.t Kc.v oneOr ldRow ldC treeAt modAt ndT mdT clT T.kids get2
attribute [push_cast] rsv rsvRow rsvC St.cut keepAll keepNone keepBut keepFar keepRO rowT rowsOf viewsOf buildRow kc splC setRow flatRows T.flat Cl.okB skipPut EOp.dst
attribute [push_cast] nmA nmC nmPl nmPe keepsL exitA bxOut resOut memsE hidsE roB rvB rvRows ksC roC clKs rowKs
attribute [push_cast] List.length_nil List.length_cons List.drop_zero List.drop_succ_cons List.drop_nil List.take_zero List.take_succ_cons List.take_nil List.getElem?_cons_zero List.getElem?_cons_succ List.getElem?_nil
attribute [push_cast] List.getD_cons_zero List.getD_cons_succ List.set_cons_zero List.set_cons_succ true_and and_true or_true true_or ne_eq not_false_eq_true not_true_eq_false decide_true decide_false Bool.false_eq_true if_true if_false false_implies implies_true
attribute [push_cast] List.map_nil List.map_cons List.nil_append List.cons_append List.append_nil List.length_map Int.toNat_natCast and_self Option.map_some Option.map_none Option.bind_some Option.bind_none Bool.true_and Bool.and_true Bool.false_and Bool.and_false Bool.true_or Bool.or_true Bool.false_or Bool.or_false Bool.not_true Bool.not_false
attribute [push_cast] beq_self_eq_true List.flatMap_nil List.flatMap_cons List.all_nil List.all_cons Option.isNone_none Option.isNone_some List.isEmpty_nil List.isEmpty_cons Nat.zero_add Nat.add_zero
end Go.Eng

namespace Go.Eng

def Opd.sl : Opd → List Nat
  | .t n => [n]
  | _ => []
def oSl : Option Opd → List Nat
  | some x => x.sl
  | none => []
/-- Memory that an operand leads to. -/
def ptRt (f : Nat → A) (x : Opd) : List Nat := match x.ev f with
  | .pr r _ => [r]
  | .pe (some q) _ _ => [q.1]
  | _ => []
/-- What lies behind a lent argument. -/
def alRt (f : Nat → A) (x : Opd) : List Nat := match x.ev f with
  | .al m _ => [16000 + m]
  | _ => []
def opKs (f : Nat → A) (x : Opd) : List Key := match x.ev f with
  | .pe _ ks _ => ks
  | .val _ row => rowKs row
  | _ => []
/-- What it reads; the keys that it leans on. -/
def POp.rd (f : Nat → A) : POp → List Nat
  | .mv x => x.sl ++ alRt f x
  | .nilc x => x.sl
  | .pick c x y => c.sl ++ (x.sl ++ y.sl)
  | .bin _ x y => x.sl ++ y.sl
  | .un _ x => x.sl
  | .len _ x => x.sl
  | .sli x lo hi _ => x.sl ++ (oSl lo ++ oSl hi)
  | .ix x i => x.sl ++ i.sl
  | .fld x _ _ _ => x.sl
  | .fa x _ _ => x.sl ++ ptRt f x
  | .ia x i _ => x.sl ++ i.sl
  | .ld x _ _ _ => x.sl ++ ptRt f x
  | .conv _ x => x.sl
  | .b2s x => x.sl
  | .beq _ x y => x.sl ++ y.sl
def POp.us (f : Nat → A) : POp → List Key
  | .ld x _ _ _ => opKs f x
  | .b2s x => match vrow x f with | some (_, row) => rowKs row | none => []
  | _ => []

variable {f f' : Nat → A} {K K' : List Key}
theorem ev_congr {x : Opd} (h : ∀ v ∈ x.sl, f' v = f v) : x.ev f' = x.ev f := by
  cases x with
  | t n => exact h n (by simp [Opd.sl])
  | _ => rfl
theorem mvA_congr {x : Opd} (h : ∀ v ∈ x.sl, f' v = f v) : mvA x f' = mvA x f := by
  cases x with
  | t n => simp only [mvA]; rw [h n (by simp [Opd.sl])]
  | _ => rfl
theorem mvX_congr {x : Opd} (h : ∀ v ∈ x.sl, f' v = f v) (h2 : ∀ v ∈ alRt f x, f' v = f v) : mvX x f' = mvX x f := by
  unfold mvX
  rw [ev_congr h, mvA_congr h]
  cases hx : x.ev f with
  | al m agg =>
    simp only [alRt, hx] at h2
    simp only
    rw [h2 (16000 + m) (by simp)]
  | _ => rfl
theorem vrow_congr {x : Opd} (h : ∀ v ∈ x.sl, f' v = f v) : vrow x f' = vrow x f := by unfold vrow; rw [mvA_congr h]
theorem lit1_congr {x : Opd} (h : ∀ v ∈ x.sl, f' v = f v) : lit1 x f' = lit1 x f := by unfold lit1; rw [ev_congr h]
theorem intA_congr {x : Opd} (h : ∀ v ∈ x.sl, f' v = f v) : intA x f' = intA x f := by unfold intA; rw [lit1_congr h]
theorem bndA_congr {x : Option Opd} {d : Int} (h : ∀ v ∈ oSl x, f' v = f v) : bndA f' d x = bndA f d x := by
  cases x with
  | none => rfl
  | some x => exact intA_congr h
theorem ldC_congr {pl : Option (Nat × Nat × Path × Nat × Nat)} {ks : List Key} {j : Nat} {t : T} (h : ∀ q, pl = some q → f' q.1 = f q.1) : ldC f' pl ks j t = ldC f pl ks j t := by
  cases t with
  | sl fz sz rows =>
    simp only [ldC]
    cases pl with
    | none => rfl
    | some q =>
      obtain ⟨r, o, p, i, oo⟩ := q
      have := h _ rfl
      simp only at this ⊢
      rw [this]
  | _ => rfl
theorem ldRow_congr {pl : Option (Nat × Nat × Path × Nat × Nat)} {ks : List Key} (h : ∀ q, pl = some q → f' q.1 = f q.1) : ∀ (row : Row) (j : Nat), ldRow f' pl ks j row = ldRow f pl ks j row := by
  intro row
  induction row with
  | nil => intro j; rfl
  | cons t l ih => intro j; simp only [ldRow]; rw [ldC_congr h, ih]

theorem keyB_of {ks : List Key} (h : keyB K ks = true) (hu : ∀ k ∈ ks, k ∈ K' → k ∈ K) : keyB K' ks = true := by
  have hv := keyB_vd h
  simp only [keyB, List.all_eq_true, Bool.and_eq_true, decide_eq_true_eq, Bool.not_eq_true']
  intro k hk
  refine ⟨?_, (hv k hk).2⟩
  cases he : K'.elem k with
  | false => rfl
  | true => exact absurd (hu k hk (List.mem_of_elem_eq_true he)) (hv k hk).1

theorem pev_congr {x : POp} {c : Prop} {a : A} (he : pev K f x = some (c, a)) (h : ∀ v ∈ x.rd f, f' v = f v) (hu : ∀ k ∈ x.us f, k ∈ K' → k ∈ K) : ∃ c', pev K' f' x = some (c', a) ∧ (c → c') := by
  have hap : ∀ {l m : List Nat}, (∀ v ∈ l ++ m, f' v = f v) → (∀ v ∈ l, f' v = f v) ∧ ∀ v ∈ m, f' v = f v := fun h => ⟨fun v hv => h v (List.mem_append_left _ hv), fun v hv => h v (List.mem_append_right _ hv)⟩
  cases x with
  | mv x =>
    simp only [pev, POp.rd] at he h ⊢
    obtain ⟨h1, h2⟩ := hap h
    rw [mvX_congr h1 h2]; exact ⟨c, he, id⟩
  | nilc x => simp only [pev, POp.rd] at he h ⊢; rw [ev_congr h]; exact ⟨c, he, id⟩
  | pick cc x y =>
    simp only [pev, POp.rd] at he h ⊢
    obtain ⟨h1, h2⟩ := hap h; obtain ⟨h2, h3⟩ := hap h2
    rw [lit1_congr h1, mvA_congr h2, mvA_congr h3]; exact ⟨c, he, id⟩
  | bin op x y =>
    simp only [pev, POp.rd] at he h ⊢
    obtain ⟨h1, h2⟩ := hap h
    rw [lit1_congr h1, lit1_congr h2]; exact ⟨c, he, id⟩
  | un op x => simp only [pev, POp.rd] at he h ⊢; rw [lit1_congr h]; exact ⟨c, he, id⟩
  | len s x =>
    cases s <;> simp only [pev, POp.rd] at he h ⊢
    · rw [vrow_congr h]; exact ⟨c, he, id⟩
    · rw [lit1_congr h]; exact ⟨c, he, id⟩
  | sli x lo hi sz =>
    cases sz <;> simp only [pev, POp.rd] at he h ⊢ <;> obtain ⟨h1, h2⟩ := hap h <;> obtain ⟨h2, h3⟩ := hap h2
    · rw [lit1_congr h1]
      simp only [bndA_congr h2, bndA_congr h3]
      exact ⟨c, he, id⟩
    · rw [vrow_congr h1]
      simp only [bndA_congr h2, bndA_congr h3]
      exact ⟨c, he, id⟩
  | ix x i =>
    simp only [pev, POp.rd] at he h ⊢
    obtain ⟨h1, h2⟩ := hap h
    rw [lit1_congr h1, intA_congr h2]; exact ⟨c, he, id⟩
  | fld x off n agg => simp only [pev, POp.rd] at he h ⊢; rw [vrow_congr h]; exact ⟨c, he, id⟩
  | fa x root off =>
    simp only [pev, POp.rd] at he h ⊢
    obtain ⟨h1, h2⟩ := hap h
    rw [ev_congr h1]
    split at he
    · rename_i r o hx
      simp only [ptRt, hx] at h2
      rw [h2 r (by simp)]
      exact ⟨c, he, id⟩
    · exact ⟨c, he, id⟩
    · cases he
  | ia x i sz =>
    simp only [pev, POp.rd] at he h ⊢
    obtain ⟨h1, h2⟩ := hap h
    rw [vrow_congr h1, intA_congr h2]; exact ⟨c, he, id⟩
  | ld x root n agg =>
    simp only [pev, POp.rd, POp.us] at he h hu ⊢
    obtain ⟨h1, h2⟩ := hap h
    rw [ev_congr h1]
    split at he
    · rename_i r o hx
      simp only [ptRt, hx] at h2
      rw [h2 r (by simp)]
      exact ⟨c, he, id⟩
    · rename_i pl ks row hx
      simp only [ptRt, hx] at h2
      simp only [opKs, hx] at hu
      rw [ldRow_congr (f := f) (fun q e => by subst e; exact h2 _ (by simp))]
      obtain ⟨e1, e2, e3⟩ := oneOr_rel he
      subst e1
      refine ⟨keyB K' ks = true ∧ n ≤ row.length, ?_, fun hc => ⟨keyB_of hc.1 hu, hc.2⟩⟩
      unfold oneOr at he ⊢
      split
      · rename_i ha; rw [if_pos ha] at he; injection he with he; injection he with _ he; rw [he]
      · rename_i ha
        rw [if_neg ha] at he
        split at he
        · rename_i y hy
          injection he with he; injection he with _ he; rw [he]
        · cases he
    · cases he
  | conv k x => simp only [pev, POp.rd] at he h ⊢; rw [lit1_congr h]; exact ⟨c, he, id⟩
  | b2s x =>
    simp only [pev, POp.rd, POp.us] at he h hu ⊢
    rw [vrow_congr h]
    split at he
    · rename_i cl hr
      split at he
      · rename_i fz sz rows ht
        simp only [Option.some.injEq, Prod.mk.injEq] at he
        obtain ⟨rfl, rfl⟩ := he
        refine ⟨_, rfl, fun hc => ?_⟩
        simp only [Bool.and_eq_true] at hc ⊢
        refine ⟨hc.1, ?_⟩
        simp only [hr, rowKs, List.flatMap_cons, List.flatMap_nil, List.append_nil] at hu
        cases cl with
        | ow t => rfl
        | vw pl ks t => exact keyB_of hc.2 hu
      · cases he
    · cases he
  | beq neg x y =>
    simp only [pev, POp.rd] at he h ⊢
    obtain ⟨h1, h2⟩ := hap h
    rw [lit1_congr h1, lit1_congr h2]; exact ⟨c, he, id⟩
end Go.Eng

namespace Go.Eng
variable {P : Program} {G : Glob}

def ixL : List AO → Nat → Option Nat
  | [], _ => none
  | x :: l, v => if x.op.dst = some v then some 0 else (ixL l v).map (· + 1)
theorem ixL_some {l : List AO} {v i : Nat} (h : ixL l v = some i) : ∃ x, l[i]? = some x ∧ x.op.dst = some v := by
  induction l generalizing i with
  | nil => cases h
  | cons x l ih =>
    simp only [ixL] at h
    split at h
    · rename_i hx; injection h with h; subst h; exact ⟨x, rfl, hx⟩
    · simp only [Option.map_eq_some_iff] at h
      obtain ⟨j, hj, rfl⟩ := h
      obtain ⟨y, h1, h2⟩ := ih hj
      exact ⟨y, by simpa using h1, h2⟩
def dstN : List AO → List Nat
  | [] => []
  | x :: l => (match x.op.dst with | some d => [d] | none => []) ++ dstN l
def nodupB : List Nat → Bool
  | [] => true
  | x :: l => !(l.elem x) && nodupB l
theorem dstN_mem {l : List AO} {i : Nat} {x : AO} {d : Nat} (h : l[i]? = some x) (hd : x.op.dst = some d) : d ∈ dstN l := by
  induction l generalizing i with
  | nil => simp at h
  | cons y l ih =>
    simp only [dstN, List.mem_append]
    cases i with
    | zero => simp at h; subst h; left; rw [hd]; simp
    | succ i => right; exact ih (by simpa using h)
theorem ixL_of {l : List AO} {i d : Nat} {x : AO} (hn : nodupB (dstN l) = true) (h : l[i]? = some x) (hd : x.op.dst = some d) : ixL l d = some i := by
  induction l generalizing i with
  | nil => simp at h
  | cons y l ih =>
    cases i with
    | zero => simp at h; subst h; simp only [ixL]; rw [if_pos hd]
    | succ i =>
      have hl : l[i]? = some x := by simpa using h
      have hm := dstN_mem hl hd
      simp only [ixL]
      have hy : y.op.dst ≠ some d := by
        intro hy
        simp only [dstN, hy, List.cons_append, List.nil_append, nodupB, Bool.and_eq_true, Bool.not_eq_true'] at hn
        rw [List.elem_eq_true_of_mem hm] at hn
        cases hn.1
      rw [if_neg hy]
      have hn2 : nodupB (dstN l) = true := by
        simp only [dstN] at hn
        split at hn
        · simp only [List.cons_append, List.nil_append, nodupB, Bool.and_eq_true] at hn; exact hn.2
        · exact hn
      rw [ih hn2 hl]; rfl

/-- What is read of the region's own is ready. -/
def rdB (all : List AO) (i : Nat) (af : List Nat) : List Nat → Bool
  | [] => true
  | v :: l => (match ixL all v with | some j => af.elem j && decide (j < i) | none => true) && rdB all i af l
theorem rdB_mem {all : List AO} {i : Nat} {af : List Nat} {l : List Nat} (h : rdB all i af l = true) {v j : Nat} (hv : v ∈ l) (hj : ixL all v = some j) : j ∈ af ∧ j < i := by
  induction l with
  | nil => cases hv
  | cons w l ih =>
    simp only [rdB, Bool.and_eq_true] at h
    rcases List.mem_cons.1 hv with rfl | hv
    · rw [hj] at h
      simp only [Bool.and_eq_true, decide_eq_true_eq] at h
      exact ⟨List.mem_of_elem_eq_true h.1.1, h.1.2⟩
    · exact ih h.2 hv

/-- The text's own order, and what makes every other as good. -/
def pwp (all : List AO) : Nat → List AO → St → (St → Prop) → Prop
  | _, [], S, K => K S
  | i, x :: l, S, K => match x.guard, x.op with
    | none, .p d p => okeys d (S.get d) = [] ∧ d < 15000 ∧ rdB all i x.aft (p.rd S.get) = true ∧ (match pev S.k S.get p with
      | some (c, a) => c ∧ pwp all (i + 1) l (S.set d a) K
      | none => False)
    | _, _ => False

def cur (S : St) (l : List AO) (as : Nat → A) (D : Nat → Prop) [DecidablePred D] (v : Nat) : A := match ixL l v with
  | some i => if D i then as i else S.get v
  | none => S.get v

/-- What the order of the text tells of each operation. -/
structure PF (S : St) (all : List AO) (as : Nat → A) (i : Nat) (x : AO) (d : Nat) (p : POp) : Prop where
  g : x.guard = none
  o : x.op = .p d p
  ok : okeys d (S.get d) = []
  lt : d < 15000
  ev : ∃ f c, pev S.k f p = some (c, as i) ∧ c ∧ (∀ v, f v = cur S all as (· < i) v) ∧ rdB all i x.aft (p.rd f) = true

theorem pwp_facts {all : List AO} (hn : nodupB (dstN all) = true) {S : St} {K : St → Prop} : ∀ (l : List AO) (i : Nat) (Si : St) (as : Nat → A), (∀ j, l[j]? = all[i + j]?) → (∀ v, Si.get v = cur S all as (· < i) v) → Si.k = S.k →
    (∀ kp, keepsL kp Si.s = keepsL kp S.s) → pwp all i l Si K → ∃ as' : Nat → A, (∀ j, j < i → as' j = as j) ∧ (∀ j x, i ≤ j → all[j]? = some x → ∃ d p, PF S all as' j x d p) ∧
      ∃ Sn, K Sn ∧ (∀ v, Sn.get v = cur S all as' (· < i + l.length) v) ∧ Sn.k = S.k ∧ ∀ kp, keepsL kp Sn.s = keepsL kp S.s := by
  intro l
  induction l with
  | nil =>
    intro i Si as hl hg hk hkp h
    refine ⟨as, fun _ _ => rfl, fun j x hij hj => ?_, Si, h, by simpa using hg, hk, hkp⟩
    have := hl (j - i)
    rw [show i + (j - i) = j by omega, hj] at this
    simp at this
  | cons x l ih =>
    intro i Si as hl hg hk hkp h
    have hx : all[i]? = some x := by have := hl 0; simpa using this.symm
    simp only [pwp] at h
    split at h
    · rename_i d p hgd hop
      obtain ⟨h1, h2, h3, h4⟩ := h
      split at h4
      · rename_i c a hev
        obtain ⟨hc, h4⟩ := h4
        have hdst : x.op.dst = some d := by rw [hop]; rfl
        have hix := ixL_of hn hx hdst
        let as1 : Nat → A := fun j => if j = i then a else as j
        have hcur : ∀ v, cur S all as1 (· < i) v = cur S all as (· < i) v := fun v => by
          unfold cur
          cases hv : ixL all v with
          | none => rfl
          | some j =>
            simp only
            by_cases hj : j < i
            · rw [if_pos hj, if_pos hj]; simp only [as1]; rw [if_neg (by omega)]
            · rw [if_neg hj, if_neg hj]
        have hSd : Si.get d = S.get d := by
          rw [hg d]; unfold cur; rw [hix]; simp
        obtain ⟨as', q1, q2, Sn, q3, q4, q5, q6⟩ := ih (i + 1) (Si.set d a) as1 (fun j => by
            have := hl (j + 1); rw [show i + (j + 1) = i + 1 + j by omega] at this; simpa using this)
          (fun v => by
            rw [St.get_set]
            by_cases hv : v = d
            · subst hv; rw [if_pos rfl]; unfold cur; rw [hix]; simp [as1]
            · rw [if_neg hv, hg v]
              unfold cur
              cases hv2 : ixL all v with
              | none => rfl
              | some j =>
                have hji : j ≠ i := by
                  rintro rfl
                  obtain ⟨y, hy1, hy2⟩ := ixL_some hv2
                  rw [hx] at hy1; injection hy1 with hy1; subst hy1
                  rw [hdst] at hy2; injection hy2 with hy2; exact hv hy2.symm
                simp only
                by_cases hj : j < i
                · rw [if_pos hj, if_pos (by omega)]; simp only [as1]; rw [if_neg hji]
                · rw [if_neg hj, if_neg (by omega)])
          (by rw [St.k_set, h1, hk]; rfl) (fun kp => by
            show keepsL kp ((d, a) :: Si.s) = _
            simp only [keepsL]
            rw [decide_eq_true h2, Bool.true_or, Bool.true_and]; exact hkp kp) h4
        refine ⟨as', fun j hj => by rw [q1 j (by omega)]; simp only [as1]; rw [if_neg (by omega)], fun j y hij hy => ?_, Sn, q3, ?_, q5, q6⟩
        · by_cases e : j = i
          · subst e
            rw [hx] at hy; injection hy with hy; subst hy
            refine ⟨d, p, hgd, hop, by rw [← hSd]; exact h1, h2, Si.get, c, ?_, hc, fun v => ?_, h3⟩
            · rw [q1 j (by omega), ← hk]; simp only [as1, if_true]; exact hev
            · rw [hg v, ← hcur v]
              unfold cur
              cases hv : ixL all v with
              | none => rfl
              | some j' =>
                simp only
                by_cases hj : j' < j
                · rw [if_pos hj, if_pos hj, q1 j' (by omega)]
                · rw [if_neg hj, if_neg hj]
          · exact q2 j y (by omega) hy
        · intro v; rw [q4 v, show i + 1 + l.length = i + (x :: l).length by simp; omega]
      · exact h4.elim
    · exact h.elim

theorem nd_len : ∀ {d m : List Nat}, d.Nodup → d ⊆ m → d.length ≤ m.length := by
  intro d
  induction d with
  | nil => intro m _ _; exact Nat.zero_le _
  | cons x d ih =>
    intro m hn hs
    obtain ⟨h1, h2⟩ := List.nodup_cons.1 hn
    have hx : x ∈ m := hs (by simp)
    have := ih (m := m.erase x) h2 fun y hy => by
      have hne : y ≠ x := by rintro rfl; exact h1 hy
      exact (List.mem_erase_of_ne hne).2 (hs (by simp [hy]))
    rw [List.length_erase_of_mem hx] at this
    have h0 := List.length_pos_of_mem hx
    simp only [List.length_cons]
    omega
theorem norm_eq {S T : St} {kp : List Nat} (h : ∀ v, T.get v = S.get v) (hk : T.k = S.k) : T.norm kp = S.norm kp := by
  have : ∀ l, nmL T kp l = nmL S kp l := by
    intro l
    induction l with
    | nil => rfl
    | cons k l ih => simp only [nmL]; rw [h k, hk, ih]
  simp only [St.norm]
  rw [this]

theorem pure_any {l : List AO} {S : St} {kp : List Nat} {Q : AEx → St → Prop} (hn : nodupB (dstN l) = true) (h : pwp l 0 l S (endK kp Q)) : sAny P G l l.length [] S (endK kp Q) := by
  obtain ⟨as, _, hf, Sn, h3, h4, h5, h6⟩ := pwp_facts (S := S) hn l 0 S (fun _ => .any) (fun j => by rw [Nat.zero_add]) (fun v => by unfold cur; split <;> simp) rfl (fun _ => rfl) h
  have key : ∀ (n : Nat) (done : List Nat) (T : St), (∀ i ∈ done, i < l.length) → done.Nodup → n + done.length = l.length → (∀ v, T.get v = cur S l as (· ∈ done) v) → T.k = S.k → (∀ kp, keepsL kp T.s = keepsL kp S.s) → sAny P G l n done T (endK kp Q) := by
    intro n
    induction n with
    | zero =>
      intro done T hd hnd hlen hg hk hkp
      have hall : ∀ i, i < l.length → i ∈ done := fun i hi => by
        apply Classical.byContradiction
        intro hni
        have hsub : done ⊆ (List.range l.length).erase i := fun j hj => by
          have hji : j ≠ i := by rintro rfl; exact hni hj
          exact (List.mem_erase_of_ne hji).2 (List.mem_range.2 (hd j hj))
        have hle := nd_len hnd hsub
        have hin : i ∈ List.range l.length := List.mem_range.2 hi
        rw [List.length_erase_of_mem hin, List.length_range] at hle
        omega
      show endK kp Q T
      have hTS : ∀ v, T.get v = Sn.get v := fun v => by
        rw [hg v, h4 v]
        unfold cur
        cases hv : ixL l v with
        | none => rfl
        | some i =>
          obtain ⟨x, hx, _⟩ := ixL_some hv
          have hi := (List.getElem?_eq_some_iff.1 hx).1
          simp only
          rw [if_pos (hall i hi), if_pos (by omega)]
      obtain ⟨z1, z2⟩ := h3
      refine ⟨?_, ?_⟩
      · show keepsL kp T.s = true
        rw [hkp, ← h6]; exact z1
      · rw [norm_eq hTS (by rw [hk, h5])]; exact z2
    | succ n ih =>
      intro done T hd hnd hlen hg hk hkp i x hx hni haf
      obtain ⟨d, p, hp⟩ := hf i x (Nat.zero_le _) hx
      obtain ⟨f, c, e1, hc, e2, e3⟩ := hp.ev
      have hdst : x.op.dst = some d := by rw [hp.o]; rfl
      have hix := ixL_of hn hx hdst
      obtain ⟨c', k1, k2⟩ := pev_congr (K' := T.k) (f' := T.get) e1 (fun v hv => by
        rw [hg v, e2 v]
        unfold cur
        cases hv2 : ixL l v with
        | none => rfl
        | some j =>
          obtain ⟨q1, q2⟩ := rdB_mem e3 hv hv2
          simp only
          rw [if_pos (haf j q1), if_pos q2]) (fun k _ hk' => by rw [← hk]; exact hk')
      have hTd : T.get d = S.get d := by
        rw [hg d]; unfold cur; rw [hix]; simp only; rw [if_neg hni]
      obtain ⟨gd, op, af⟩ := x
      obtain rfl : gd = none := hp.g
      obtain rfl : op = .p d p := hp.o
      show owp P G (.p d p) T _
      simp only [owp, eev, k1, Option.map_some]
      refine ⟨k2 hc, ?_⟩
      show sAny P G l n (i :: done) (T.set d (as i)) (endK kp Q)
      refine ih (i :: done) _ (fun j hj => ?_) (List.nodup_cons.2 ⟨hni, hnd⟩) (by simp; omega) (fun v => ?_) ?_ (fun kp => ?_)
      · rcases List.mem_cons.1 hj with rfl | hj
        · exact (List.getElem?_eq_some_iff.1 hx).1
        · exact hd j hj
      · rw [St.get_set]
        by_cases hv : v = d
        · subst hv; rw [if_pos rfl]; unfold cur; rw [hix]; simp
        · rw [if_neg hv, hg v]
          unfold cur
          cases hv2 : ixL l v with
          | none => rfl
          | some j =>
            have hji : j ≠ i := by
              rintro rfl
              obtain ⟨y, hy1, hy2⟩ := ixL_some hv2
              rw [hx] at hy1; injection hy1 with hy1; subst hy1
              rw [hdst] at hy2; injection hy2 with hy2; exact hv hy2.symm
            simp [hji]
      · rw [St.k_set, hTd, hp.ok, hk]; rfl
      · show keepsL kp ((d, as i) :: T.s) = _
        simp only [keepsL]
        rw [decide_eq_true hp.lt, Bool.true_or, Bool.true_and]; exact hkp kp
  exact key l.length [] S (by simp) List.nodup_nil (by simp) (fun v => by unfold cur; split <;> simp) rfl (fun _ => rfl)
theorem pwp_nil (all : List AO) (i : Nat) (S : St) (kp : List Nat) (Q : AEx → St → Prop) : pwp all i [] S (endK kp Q) = (S.keeps kp = true ∧ Q .normal (S.norm kp)) := rfl
def pwpK (all : List AO) (i : Nat) (l : List AO) (d : Nat) (S : St) (K : St → Prop) : Option (Prop × A) → Prop
  | some (c, a) => c ∧ pwp all (i + 1) l (S.set d a) K
  | none => False
theorem pwp_op (all : List AO) (i d : Nat) (p : POp) (af : List Nat) (l : List AO) (S : St) (K : St → Prop) : pwp all i (⟨none, .p d p, af⟩ :: l) S K = (okeys d (S.get d) = [] ∧ d < 15000 ∧ rdB all i af (p.rd S.get) = true ∧ pwpK all i l d S K (pev S.k S.get p)) := by
  simp only [pwp, pwpK]
theorem pwpK_some (all : List AO) (i : Nat) (l : List AO) (d : Nat) (S : St) (K : St → Prop) (c : Prop) (a : A) : pwpK all i l d S K (some (c, a)) = (c ∧ pwp all (i + 1) l (S.set d a) K) := rfl
attribute [push_cast] pwp_nil pwp_op pwpK_some rdB ixL POp.rd ptRt alRt Opd.sl oSl
end Go.Eng

namespace Go.Eng
variable {P : Program} {G : Glob}
def outK (P : Program) (G : Glob) (l : List AO) (K : St → Prop) : Option St → Prop
  | some S => rwp P G l S K
  | none => False
def callR (P : Program) (G : Glob) (d : Option Nat) (l : List AO) (K : St → Prop) (cs : List CIn) (S1 : St) (rs : List Rv) (ms : List Row) (hs : List (Nat × Row)) : Prop :=
  retC S1 ms hs (csG cs) ∧ bxOk S1 (csG cs) (d.getD 4999) rs ∧ outK P G l K (callOut S1 d cs rs ms hs)
def callK (P : Program) (G : Glob) (d : Option Nat) (f : FuncId) (n : Nat) (l : List AO) (K : St → Prop) : Option (List CIn × St) → Prop
  | some (cs, S1) => csC cs ∧ gokB (csG cs) (csK cs) = true ∧ jB (csG cs) = true ∧ n ≤ 1000 ∧
      ∃ rs ms hs, FnD P G f (csA cs) (csM cs) (csH cs) rs ms hs ∧ callR P G d l K cs S1 rs ms hs
  | none => False
theorem rwp_call (d : Option Nat) (f : FuncId) (args : List Arg) (af : List Nat) (l : List AO) (S : St) (K : St → Prop) : rwp P G (⟨none, .call d f args, af⟩ :: l) S K = callK P G d f args.length l K (callIn S args) := by
  simp only [rwp, owp, callK, callR]
  generalize callIn S args = u
  rcases u with _ | ⟨cs, S1⟩
  · rfl
  · rfl
theorem callK_some (d : Option Nat) (f : FuncId) (n : Nat) (l : List AO) (K : St → Prop) (cs : List CIn) (S1 : St) : callK P G d f n l K (some (cs, S1)) = (csC cs ∧ gokB (csG cs) (csK cs) = true ∧ jB (csG cs) = true ∧ n ≤ 1000 ∧
      ∃ rs ms hs, FnD P G f (csA cs) (csM cs) (csH cs) rs ms hs ∧ callR P G d l K cs S1 rs ms hs) := rfl
theorem callR_v (d : Option Nat) (l : List AO) (K : St → Prop) (cs : List CIn) (S1 : St) (agg : Bool) (row : List Cl) (ms : List Row) (hs : List (Nat × Row)) : callR P G d l K cs S1 [.v agg row] ms hs = (retC S1 ms hs (csG cs) ∧ outK P G l K (callOut S1 d cs [.v agg row] ms hs)) := by simp [callR, bxOk]
theorem callR_nil (d : Option Nat) (l : List AO) (K : St → Prop) (cs : List CIn) (S1 : St) (ms : List Row) (hs : List (Nat × Row)) : callR P G d l K cs S1 [] ms hs = (retC S1 ms hs (csG cs) ∧ outK P G l K (callOut S1 d cs [] ms hs)) := by simp [callR, bxOk]
theorem callR_2 (d : Option Nat) (l : List AO) (K : St → Prop) (cs : List CIn) (S1 : St) (r r2 : Rv) (rs : List Rv) (ms : List Row) (hs : List (Nat × Row)) : callR P G d l K cs S1 (r :: r2 :: rs) ms hs = (retC S1 ms hs (csG cs) ∧ outK P G l K (callOut S1 d cs (r :: r2 :: rs) ms hs)) := by simp [callR, bxOk]
theorem callR_bx (d : Nat) (l : List AO) (K : St → Prop) (cs : List CIn) (S1 : St) (row : Row) (ms : List Row) (hs : List (Nat × Row)) : callR P G (some d) l K cs S1 [.bx row] ms hs = (retC S1 ms hs (csG cs) ∧ bxOk S1 (csG cs) d [.bx row] ∧ outK P G l K (callOut S1 (some d) cs [.bx row] ms hs)) := rfl
theorem outK_some (l : List AO) (K : St → Prop) (S : St) : outK P G l K (some S) = rwp P G l S K := rfl
/-- The contract of the callee is put in. -/
theorem call_ok {f : FuncId} {As : List A} {mems : List Row} {hids : List (Nat × Row)} {rs : List Rv} {ms : List Row} {hs : List (Nat × Row)} {R : List Rv → List Row → List (Nat × Row) → Prop} (h : FnD P G f As mems hids rs ms hs) (h2 : R rs ms hs) : ∃ rs ms hs, FnD P G f As mems hids rs ms hs ∧ R rs ms hs := ⟨rs, ms, hs, h, h2⟩
attribute [push_cast] rwp_call callK_some callR_v callR_nil callR_2 callR_bx outK_some callIn stageMv argsIn argIn csC csA csG csK csM csH gokB sepsB dstB rokB jB retC retB bxOk callOut rvB roB rvRows backS backL gRoot gKeys updF updG mapAt mapRow mapTup mapHid upC hidL lnRow sGrps resS
attribute [push_cast] Grp.sepB Grp.cov Grp.r Grp.lo Grp.hi Grp.d Grp.dlo Grp.dhi Grp.isS rowB rowBOk Option.getD_some Option.getD_none
end Go.Eng

namespace Go.Eng
variable {P : Program} {G : Glob} {R : List Nat} {S U S' U' S1 U1 : St} {md : Option Lab → List Key → Bool}

/-- What comes ahead of a state. -/
abbrev Dl := List (Nat × A) × List Key
def St.plus (S : St) (D : Dl) : St := ⟨D.1 ++ S.s, D.2 ++ S.k⟩
def wrR (D : Dl) : List Nat := D.1.map (·.1)
theorem getL_ap (l m : List (Nat × A)) (v : Nat) : getL (l ++ m) v = if v ∈ l.map (·.1) then getL l v else getL m v := by
  induction l with
  | nil => simp
  | cons p l ih =>
    obtain ⟨k, a⟩ := p
    simp only [List.cons_append, getL, List.map_cons, List.mem_cons]
    by_cases h : v = k
    · simp [h]
    · simp only [if_neg h, ih, h, false_or, if_false]
theorem plus_get (S : St) (D : Dl) (v : Nat) : (S.plus D).get v = if v ∈ wrR D then getL D.1 v else S.get v := getL_ap _ _ _
theorem plus_k (S : St) (D : Dl) (k : Key) : k ∈ (S.plus D).k ↔ k ∈ D.2 ∨ k ∈ S.k := by simp [St.plus]

structure Agr (R : List Nat) (S U : St) : Prop where
  g : ∀ v ∈ R, S.get v = U.get v
  k : ∀ k : Key, k.1 ∈ R → (k ∈ S.k ↔ k ∈ U.k)
theorem Agr.plus (h : Agr R S U) (D : Dl) : Agr R (S.plus D) (U.plus D) where
  g := fun v hv => by rw [plus_get, plus_get, h.g v hv]
  k := fun k hk => by rw [plus_k, plus_k, h.k k hk]
theorem Agr.mono {R' : List Nat} (h : Agr R S U) (hs : ∀ v ∈ R', v ∈ R) : Agr R' S U := ⟨fun v hv => h.g v (hs v hv), fun k hk => h.k k (hs _ hk)⟩

/-- Both turn alike. -/
def Lc (R : List Nat) (S U S' U' : St) : Prop := ∃ D : Dl, S' = S.plus D ∧ U' = U.plus D ∧ (∀ k ∈ D.2, k.1 ∈ wrR D) ∧ ∀ v ∈ wrR D, v ∈ R
theorem Lc.refl (R : List Nat) (S U : St) : Lc R S U S U := ⟨([], []), rfl, rfl, by simp, by simp [wrR]⟩
theorem Lc.trans {S2 U2 : St} (h : Lc R S U S1 U1) (h' : Lc R S1 U1 S2 U2) : Lc R S U S2 U2 := by
  obtain ⟨D, rfl, rfl, h1, h2⟩ := h
  obtain ⟨D', rfl, rfl, h3, h4⟩ := h'
  refine ⟨(D'.1 ++ D.1, D'.2 ++ D.2), by simp [St.plus], by simp [St.plus], fun k hk => ?_, fun v hv => ?_⟩
  · simp only [wrR, List.map_append, List.mem_append] at hk ⊢
    rcases hk with hk | hk
    · exact .inl (h3 k hk)
    · exact .inr (h1 k hk)
  · simp only [wrR, List.map_append, List.mem_append] at hv
    rcases hv with hv | hv
    · exact h4 v hv
    · exact h2 v hv
theorem Lc.agr (h : Lc R S U S' U') (ha : Agr R S U) : Agr R S' U' := by
  obtain ⟨D, rfl, rfl, _⟩ := h
  exact ha.plus D
theorem Lc.putk {d : Nat} {a : A} {ks : List Key} (hd : d ∈ R) (hk : ∀ k ∈ ks, k.1 = d) : Lc R S U ((S.put d a).kl ks) ((U.put d a).kl ks) :=
  ⟨([(d, a)], ks), rfl, rfl, fun k h => by rw [hk k h]; simp [wrR], by simp [wrR, hd]⟩
theorem Lc.put {d : Nat} {a : A} (hd : d ∈ R) : Lc R S U (S.put d a) (U.put d a) := ⟨([(d, a)], []), rfl, rfl, by simp, by simp [wrR, hd]⟩
theorem okeysR_fst {d : Nat} : ∀ (row : List Cl) (o : Nat) (k : Key), k ∈ okeysR d o row → k.1 = d := by
  intro row
  induction row with
  | nil => intro o k h; simp [okeysR] at h
  | cons c l ih =>
    intro o k h
    simp only [okeysR] at h
    split at h
    · rcases List.mem_cons.1 h with rfl | h
      · rfl
      · exact ih _ k h
    · exact ih _ k h
theorem okeysT_fst {d : Nat} : ∀ (rs : List (Bool × List Cl)) (m : Nat) (k : Key), k ∈ okeysT d m rs → k.1 = d := by
  intro rs
  induction rs with
  | nil => intro o k h; simp [okeysT] at h
  | cons c l ih =>
    intro o k h
    simp only [okeysT, List.mem_append] at h
    rcases h with h | h
    · exact okeysR_fst _ _ _ h
    · exact ih _ _ h
theorem okeys_fst {d : Nat} {a : A} {k : Key} (h : k ∈ okeys d a) : k.1 = d := by
  cases a <;> simp only [okeys] at h <;> first | exact okeysR_fst _ _ _ h | exact okeysT_fst _ _ _ h | cases h
theorem Lc.set {d : Nat} {a : A} (ha : Agr R S U) (hd : d ∈ R) : Lc R S U (S.set d a) (U.set d a) := by
  unfold St.set
  rw [ha.g d hd]
  exact ⟨([(d, a)], okeys d (U.get d)), rfl, rfl, fun k h => by rw [okeys_fst h]; simp [wrR], by simp [wrR, hd]⟩

/-! ### Roots that cells lean on -/
def pls : Option (Lab × Nat) → List Nat
  | some (l, _) => [l.1]
  | none => []
def kR (ks : List Key) : List Nat := ks.map (·.1)
def clR : Cl → List Nat
  | .ow _ => []
  | .vw pl ks _ => pls pl ++ kR ks
def rowR : List Cl → List Nat
  | [] => []
  | c :: l => clR c ++ rowR l
def tupR : List (Bool × List Cl) → List Nat
  | [] => []
  | r :: l => rowR r.2 ++ tupR l
def peR : Option (Nat × Nat × Path × Nat × Nat) → List Nat
  | some q => [q.1]
  | none => []
def memR : A → List Nat
  | .mem row => rowR row
  | _ => []
def aR (f : Nat → A) : A → List Nat
  | .val _ row => rowR row
  | .tup rs => tupR rs
  | .pr r _ => r :: memR (f r)
  | .pe pl ks _ => peR pl ++ kR ks
  | .fn _ ks _ => kR ks
  | .al m _ => [16000 + m]
  | _ => []
def opR (f : Nat → A) : Opd → List Nat
  | .t s => s :: aR f (f s)
  | _ => []
theorem rowR_mem {row : List Cl} {c : Cl} (h : c ∈ row) {v : Nat} (hv : v ∈ clR c) : v ∈ rowR row := by
  induction row with
  | nil => cases h
  | cons x l ih =>
    simp only [rowR, List.mem_append]
    rcases List.mem_cons.1 h with rfl | h
    · exact .inl hv
    · exact .inr (ih h)
theorem tupR_mem {rs : List (Bool × List Cl)} {r : Bool × List Cl} (h : r ∈ rs) {v : Nat} (hv : v ∈ rowR r.2) : v ∈ tupR rs := by
  induction rs with
  | nil => cases h
  | cons x l ih =>
    simp only [tupR, List.mem_append]
    rcases List.mem_cons.1 h with rfl | h
    · exact .inl hv
    · exact .inr (ih h)

theorem keyB_agr (ha : Agr R S U) {ks : List Key} (h : ∀ v ∈ kR ks, v ∈ R) : keyB S.k ks = keyB U.k ks := by
  unfold keyB
  have : ∀ k ∈ ks, (!(S.k.elem k) && decide (k.1 < 19000)) = (!(U.k.elem k) && decide (k.1 < 19000)) := fun k hk => by
    have h1 := ha.k k (h _ (List.mem_map.2 ⟨k, hk, rfl⟩))
    have : S.k.elem k = U.k.elem k := by
      rw [Bool.eq_iff_iff]
      simp only [List.elem_eq_contains, List.contains_iff_mem]
      exact h1
    rw [this]
  rw [Bool.eq_iff_iff, List.all_eq_true, List.all_eq_true]
  exact ⟨fun hh k hk => by rw [← this k hk]; exact hh k hk, fun hh k hk => by rw [this k hk]; exact hh k hk⟩

theorem rsvC_loc (ha : Agr R S U) {x o : Nat} (hx : x ∈ R) {c c' : Cl} (hc : ∀ v ∈ clR c, v ∈ R) (h : rsvC S md x o c = some (c', S')) : ∃ U', rsvC U md x o c = some (c', U') ∧ Lc R S U S' U' := by
  cases c with
  | ow t =>
    cases t with
    | lit v => simp only [rsvC, Option.some.injEq, Prod.mk.injEq] at h ⊢; obtain ⟨rfl, rfl⟩ := h; exact ⟨U, ⟨rfl, rfl⟩, Lc.refl _ _ _⟩
    | bad => simp only [rsvC, Option.some.injEq, Prod.mk.injEq] at h ⊢; obtain ⟨rfl, rfl⟩ := h; exact ⟨U, ⟨rfl, rfl⟩, Lc.refl _ _ _⟩
    | sl m sz rows =>
      cases m with
      | ow =>
        simp only [rsvC] at h ⊢
        rw [← ha.g x hx]
        split at h
        · rename_i sz' rows' ht
          split at h
          · rename_i hcnd
            simp only [Option.some.injEq, Prod.mk.injEq] at h
            obtain ⟨rfl, rfl⟩ := h
            rw [if_pos hcnd]
            refine ⟨_, rfl, ?_⟩
            unfold St.cut
            rw [ha.g x hx]
            exact Lc.putk hx (by simp)
          · cases h
        · cases h
      | el => cases h
      | fro => simp only [rsvC, Option.some.injEq, Prod.mk.injEq] at h ⊢; obtain ⟨rfl, rfl⟩ := h; exact ⟨U, ⟨rfl, rfl⟩, Lc.refl _ _ _⟩
  | vw pl ks t =>
    simp only [rsvC] at h ⊢
    split at h
    · rename_i hmd
      rw [if_pos hmd]
      simp only [Option.some.injEq, Prod.mk.injEq] at h ⊢; obtain ⟨rfl, rfl⟩ := h; exact ⟨U, ⟨rfl, rfl⟩, Lc.refl _ _ _⟩
    · rename_i hmd
      rw [if_neg hmd]
      split at h
      · rename_i l lo sz rows
        have hl : l.1 ∈ R := hc _ (by simp [clR, pls])
        split at h
        · rename_i hcnd
          rw [if_pos (by rw [← keyB_agr ha (fun v hv => hc v (by simp only [clR, List.mem_append]; exact .inr hv))]; exact hcnd)]
          rw [← ha.g l.1 hl]
          split at h
          · rename_i t0 ht0
            split at h
            · rename_i sz' rows' hn
              split at h
              · rename_i hcnd2
                simp only [Option.some.injEq, Prod.mk.injEq] at h
                obtain ⟨rfl, rfl⟩ := h
                simp only [if_pos hcnd2]
                refine ⟨_, rfl, ?_⟩
                unfold St.cut
                rw [ha.g l.1 hl]
                exact Lc.putk hl (by simp)
              · cases h
            · cases h
          · cases h
        · cases h
      · simp only [Option.some.injEq, Prod.mk.injEq] at h ⊢
        obtain ⟨rfl, rfl⟩ := h
        exact ⟨U, by simp, Lc.refl _ _ _⟩
      · cases h
theorem rsvRow_loc {x : Nat} (hx : x ∈ R) : ∀ (row : List Cl) (o : Nat) (S U : St) (cs : List Cl) (S' : St), Agr R S U → (∀ v ∈ rowR row, v ∈ R) → rsvRow S md x o row = some (cs, S') → ∃ U', rsvRow U md x o row = some (cs, U') ∧ Lc R S U S' U' := by
  intro row
  induction row with
  | nil => intro o S U cs S' ha hc h; simp only [rsvRow, Option.some.injEq, Prod.mk.injEq] at h ⊢; obtain ⟨rfl, rfl⟩ := h; exact ⟨U, ⟨rfl, rfl⟩, Lc.refl _ _ _⟩
  | cons c l ih =>
    intro o S U cs S' ha hc h
    simp only [rsvRow] at h ⊢
    split at h
    · rename_i c' S1 h1
      simp only [Option.map_eq_some_iff] at h
      obtain ⟨⟨r1, r2⟩, h2, h3⟩ := h
      injection h3 with h3 h4; subst h3; subst h4
      obtain ⟨U1, k1, k2⟩ := rsvC_loc ha hx (fun v hv => hc v (by simp only [rowR, List.mem_append]; exact .inl hv)) h1
      obtain ⟨U2, k3, k4⟩ := ih _ _ _ _ _ (k2.agr ha) (fun v hv => hc v (by simp only [rowR, List.mem_append]; exact .inr hv)) h2
      rw [k1]
      simp only [k3]
      exact ⟨U2, rfl, k2.trans k4⟩
    · cases h
theorem rsv_loc (ha : Agr R S U) {x : Opd} (hx : ∀ v ∈ opR S.get x, v ∈ R) {b : Bool} {cs : List Cl} (h : rsv S md x = some (b, cs, S')) : ∃ U', rsv U md x = some (b, cs, U') ∧ Lc R S U S' U' := by
  cases x with
  | k c => simp only [rsv, Option.some.injEq, Prod.mk.injEq] at h ⊢; obtain ⟨rfl, rfl, rfl⟩ := h; exact ⟨U, ⟨rfl, rfl, rfl⟩, Lc.refl _ _ _⟩
  | z c => simp only [rsv, Option.some.injEq, Prod.mk.injEq] at h ⊢; obtain ⟨rfl, rfl, rfl⟩ := h; exact ⟨U, ⟨rfl, rfl, rfl⟩, Lc.refl _ _ _⟩
  | t s =>
    have hs : s ∈ R := hx s (by simp [opR])
    simp only [rsv] at h ⊢
    rw [← ha.g s hs]
    split at h
    · rename_i agg row hrow
      split at h
      · rename_i hlt
        rw [if_pos hlt]
        simp only [Option.map_eq_some_iff] at h
        obtain ⟨⟨r1, r2⟩, h2, h3⟩ := h
        simp only [Prod.mk.injEq] at h3
        obtain ⟨rfl, rfl, rfl⟩ := h3
        obtain ⟨U2, k3, k4⟩ := rsvRow_loc hs _ _ _ _ _ _ ha (fun v hv => hx v (by simp only [opR, hrow, aR]; exact List.mem_cons_of_mem _ hv)) h2
        rw [k3]
        exact ⟨U2, rfl, k4⟩
      · cases h
    · cases h
/-- Behind a change operands lean on no more than ahead of it. -/
def Dm (S S' : St) : Prop := ∀ (y : Opd) (v : Nat), v ∈ opR S'.get y → v ∈ opR S.get y
theorem Dm.refl (S : St) : Dm S S := fun _ _ h => h
theorem Dm.trans (h : Dm S S1) (h' : Dm S1 S') : Dm S S' := fun y v hv => h y v (h' y v hv)
theorem rowR_set {row : List Cl} {o : Nat} {t : T} {v : Nat} (h : v ∈ rowR (row.set o (.ow t))) : v ∈ rowR row := by
  induction row generalizing o with
  | nil => simpa using h
  | cons c l ih =>
    cases o with
    | zero =>
      simp only [List.set_cons_zero, rowR, clR, List.nil_append] at h
      simp only [rowR, List.mem_append]; exact .inr h
    | succ o =>
      simp only [List.set_cons_succ, rowR, List.mem_append] at h ⊢
      rcases h with h | h
      · exact .inl h
      · exact .inr (ih h)
theorem tupR_mod {rs : List (Bool × List Cl)} {i o : Nat} {t : T} {v : Nat} (h : v ∈ tupR (rs.modify i fun r => (r.1, r.2.set o (.ow t)))) : v ∈ tupR rs := by
  induction rs generalizing i with
  | nil => simpa using h
  | cons c l ih =>
    cases i with
    | zero =>
      simp only [List.modify_zero_cons, tupR, List.mem_append] at h ⊢
      rcases h with h | h
      · exact .inl (rowR_set h)
      · exact .inr h
    | succ o =>
      simp only [List.modify_succ_cons, tupR, List.mem_append] at h ⊢
      rcases h with h | h
      · exact .inl h
      · exact .inr (ih h)
theorem memR_mod {a : A} {o : Nat} {t : T} {v : Nat} (h : v ∈ memR (modAt a o t)) : v ∈ memR a := by
  cases a <;> simp only [modAt, memR] at h ⊢ <;> first | exact rowR_set h | cases h
theorem aR_mod {f f' : Nat → A} (hf : ∀ r v, v ∈ memR (f' r) → v ∈ memR (f r)) {a : A} {o : Nat} {t : T} {v : Nat} (h : v ∈ aR f' (modAt a o t)) : v ∈ aR f a := by
  cases a <;> simp only [modAt, aR] at h ⊢ <;> first | exact rowR_set h | exact tupR_mod h | exact h | skip
  rcases List.mem_cons.1 h with rfl | h
  · simp
  · exact List.mem_cons_of_mem _ (hf _ _ h)
theorem aR_mono {f f' : Nat → A} (hf : ∀ r v, v ∈ memR (f' r) → v ∈ memR (f r)) {a : A} {v : Nat} (h : v ∈ aR f' a) : v ∈ aR f a := by
  cases a <;> simp only [aR] at h ⊢ <;> first | exact h | skip
  rcases List.mem_cons.1 h with rfl | h
  · simp
  · exact List.mem_cons_of_mem _ (hf _ _ h)
theorem cut_dm (S : St) (l : Lab) (t : T) : Dm S (S.cut l t) := by
  have hf : ∀ r v, v ∈ memR ((S.cut l t).get r) → v ∈ memR (S.get r) := fun r v h => by
    unfold St.cut at h
    rw [St.get_kl, St.get_put] at h
    split at h
    · rename_i e; subst e; exact memR_mod h
    · exact h
  intro y v h
  cases y with
  | t s =>
    simp only [opR] at h ⊢
    rcases List.mem_cons.1 h with h2 | h2
    · rw [h2]; simp
    · refine List.mem_cons_of_mem _ ?_
      have e : (S.cut l t).get s = if s = l.1 then modAt (S.get l.1) l.2.1 (mdT l.2.2 .bad t) else S.get s := by
        unfold St.cut; rw [St.get_kl, St.get_put]
      rw [e] at h2
      split at h2
      · rename_i e2; rw [e2]; exact aR_mod hf h2
      · exact aR_mono hf h2
  | _ => exact h
theorem rsvC_dm {x o : Nat} {c c' : Cl} (h : rsvC S md x o c = some (c', S')) : Dm S S' := by
  cases c with
  | ow t =>
    cases t with
    | lit v => simp only [rsvC, Option.some.injEq, Prod.mk.injEq] at h; obtain ⟨rfl, rfl⟩ := h; exact Dm.refl _
    | bad => simp only [rsvC, Option.some.injEq, Prod.mk.injEq] at h; obtain ⟨rfl, rfl⟩ := h; exact Dm.refl _
    | sl m sz rows =>
      cases m with
      | ow =>
        simp only [rsvC] at h
        repeat' split at h
        all_goals first | (simp only [Option.some.injEq, Prod.mk.injEq] at h; obtain ⟨rfl, rfl⟩ := h; exact cut_dm _ _ _) | cases h
      | el => cases h
      | fro => simp only [rsvC, Option.some.injEq, Prod.mk.injEq] at h; obtain ⟨rfl, rfl⟩ := h; exact Dm.refl _
  | vw pl ks t =>
    simp only [rsvC] at h
    repeat' split at h
    all_goals first | (simp only [Option.some.injEq, Prod.mk.injEq] at h; obtain ⟨rfl, rfl⟩ := h; first | exact cut_dm _ _ _ | exact Dm.refl _) | cases h
theorem rsvRow_dm {x : Nat} : ∀ (row : List Cl) (o : Nat) (S : St) (cs : List Cl) (S' : St), rsvRow S md x o row = some (cs, S') → Dm S S' := by
  intro row
  induction row with
  | nil => intro o S cs S' h; simp only [rsvRow, Option.some.injEq, Prod.mk.injEq] at h; obtain ⟨rfl, rfl⟩ := h; exact Dm.refl _
  | cons c l ih =>
    intro o S cs S' h
    simp only [rsvRow] at h
    split at h
    · rename_i c' S1 h1
      simp only [Option.map_eq_some_iff] at h
      obtain ⟨⟨r1, r2⟩, h2, h3⟩ := h
      injection h3 with h3 h4; subst h3; subst h4
      exact (rsvC_dm h1).trans (ih _ _ _ _ h2)
    · cases h
theorem rsv_dm {x : Opd} {b : Bool} {cs : List Cl} (h : rsv S md x = some (b, cs, S')) : Dm S S' := by
  cases x with
  | k c => simp only [rsv, Option.some.injEq, Prod.mk.injEq] at h; obtain ⟨rfl, rfl, rfl⟩ := h; exact Dm.refl _
  | z c => simp only [rsv, Option.some.injEq, Prod.mk.injEq] at h; obtain ⟨rfl, rfl, rfl⟩ := h; exact Dm.refl _
  | t s =>
    simp only [rsv] at h
    split at h
    · split at h
      · simp only [Option.map_eq_some_iff] at h
        obtain ⟨⟨r1, r2⟩, h2, h3⟩ := h
        simp only [Prod.mk.injEq] at h3
        obtain ⟨rfl, rfl, rfl⟩ := h3
        exact rsvRow_dm _ _ _ _ _ h2
      · cases h
    · cases h
def opsR (f : Nat → A) : List Opd → List Nat
  | [] => []
  | x :: l => opR f x ++ opsR f l
theorem opsR_dm (h : Dm S S') {l : List Opd} {v : Nat} (hv : v ∈ opsR S'.get l) : v ∈ opsR S.get l := by
  induction l with
  | nil => exact hv
  | cons x l ih =>
    simp only [opsR, List.mem_append] at hv ⊢
    rcases hv with hv | hv
    · exact .inl (h x v hv)
    · exact .inr (ih hv)
theorem rowsOf_loc : ∀ (l : List Opd) (m : Nat) (S U : St) (rows : List Row) (S' : St), Agr R S U → (∀ v ∈ opsR S.get l, v ∈ R) → rowsOf S m l = some (rows, S') → ∃ U', rowsOf U m l = some (rows, U') ∧ Lc R S U S' U' := by
  intro l
  induction l with
  | nil => intro m S U rows S' ha hc h; simp only [rowsOf, Option.some.injEq, Prod.mk.injEq] at h ⊢; obtain ⟨rfl, rfl⟩ := h; exact ⟨U, ⟨rfl, rfl⟩, Lc.refl _ _ _⟩
  | cons x l ih =>
    intro m S U rows S' ha hc h
    simp only [rowsOf] at h ⊢
    split at h
    · rename_i b row S1 h1
      split at h
      · rename_i r hr
        simp only [Option.map_eq_some_iff] at h
        obtain ⟨⟨r1, r2⟩, h2, h3⟩ := h
        injection h3 with h3 h4; subst h3; subst h4
        obtain ⟨U1, k1, k2⟩ := rsv_loc ha (fun v hv => hc v (by simp only [opsR, List.mem_append]; exact .inl hv)) h1
        obtain ⟨U2, k3, k4⟩ := ih _ _ _ _ _ (k2.agr ha) (fun v hv => hc v (by simp only [opsR, List.mem_append]; exact .inr (opsR_dm (rsv_dm h1) hv))) h2
        rw [k1]
        simp only [hr, k3]
        exact ⟨U2, rfl, k2.trans k4⟩
      · cases h
    · cases h
theorem buildRow_loc : ∀ (l : List (Nat × Nat × Opd)) (S U : St) (row0 row : List Cl) (S' : St), Agr R S U → (∀ v ∈ opsR S.get (l.map (·.2.2)), v ∈ R) → buildRow S l row0 = some (row, S') → ∃ U', buildRow U l row0 = some (row, U') ∧ Lc R S U S' U' := by
  intro l
  induction l with
  | nil => intro S U row0 row S' ha hc h; simp only [buildRow, Option.some.injEq, Prod.mk.injEq] at h ⊢; obtain ⟨rfl, rfl⟩ := h; exact ⟨U, ⟨rfl, rfl⟩, Lc.refl _ _ _⟩
  | cons x l ih =>
    obtain ⟨o, n, x⟩ := x
    intro S U row0 row S' ha hc h
    simp only [buildRow] at h ⊢
    split at h
    · rename_i b cs S1 h1
      split at h
      · rename_i hcnd
        obtain ⟨U1, k1, k2⟩ := rsv_loc ha (fun v hv => hc v (by simp only [List.map_cons, opsR, List.mem_append]; exact .inl hv)) h1
        obtain ⟨U2, k3, k4⟩ := ih _ _ _ _ _ (k2.agr ha) (fun v hv => hc v (by simp only [List.map_cons, opsR, List.mem_append]; exact .inr (opsR_dm (rsv_dm h1) hv))) h
        rw [k1]
        simp only [if_pos hcnd]
        exact ⟨U2, k3, k2.trans k4⟩
      · cases h
    · cases h

/-! ### Operands that are looked at -/
theorem ev_loc (ha : Agr R S U) {x : Opd} (hx : ∀ v ∈ opR S.get x, v ∈ R) : x.ev U.get = x.ev S.get := by
  cases x with
  | t s => exact (ha.g s (hx s (by simp [opR]))).symm
  | _ => rfl
theorem sl_opR {f : Nat → A} {x : Opd} {v : Nat} (h : v ∈ x.sl) : v ∈ opR f x := by
  cases x with
  | t s => simp only [Opd.sl, List.mem_singleton] at h; subst h; simp [opR]
  | _ => cases h
theorem sl_loc (ha : Agr R S U) {x : Opd} (hx : ∀ v ∈ opR S.get x, v ∈ R) : ∀ v ∈ x.sl, U.get v = S.get v := fun v hv => (ha.g v (hx v (sl_opR hv))).symm
theorem vrow_kR {x : Opd} {b : Bool} {row : List Cl} (h : vrow x S.get = some (b, row)) {v : Nat} (hv : v ∈ rowR row) : v ∈ opR S.get x := by
  cases x with
  | t s =>
    simp only [vrow, mvA] at h
    cases hs : S.get s with
    | val agg r0 =>
      rw [hs] at h
      simp only [copyA, Option.some.injEq, Prod.mk.injEq] at h
      obtain ⟨rfl, rfl⟩ := h
      simp only [opR, hs, aR]
      have key : ∀ (r : List Cl) (m : Nat), v ∈ rowR (vwRow s m r) → v = s ∨ v ∈ rowR r := by
        intro r
        induction r with
        | nil => intro m h; exact .inr h
        | cons c l ih =>
          intro m h
          simp only [vwRow, rowR, List.mem_append] at h ⊢
          rcases h with h | h
          · cases c with
            | ow t =>
              cases t with
              | sl md sz rows => cases md <;> simp [vwC, clR, pls, kR] at h <;> exact .inl h
              | _ => simp [vwC, clR] at h
            | vw pl ks t => exact .inr (.inl h)
          · rcases ih _ h with h | h
            · exact .inl h
            · exact .inr (.inr h)
      rcases key _ _ hv with rfl | h
      · simp
      · exact List.mem_cons_of_mem _ h
    | _ => rw [hs] at h; simp [copyA] at h
  | k c =>
    simp only [vrow, mvA, Option.some.injEq, Prod.mk.injEq] at h
    obtain ⟨rfl, rfl⟩ := h
    cases c <;> simp [rowR, Kc.cl, clR, pls, kR] at hv
  | z cs =>
    simp only [vrow, mvA, Option.some.injEq, Prod.mk.injEq] at h
    obtain ⟨rfl, rfl⟩ := h
    exfalso
    induction cs with
    | nil => simp [rowR] at hv
    | cons c l ih =>
      simp only [List.map_cons, rowR, List.mem_append] at hv
      rcases hv with hv | hv
      · cases c <;> simp [Kc.cl, clR, pls, kR] at hv
      · exact ih hv
theorem clR_row1 {c : Cl} {v : Nat} (h : v ∈ clR c) : v ∈ rowR [c] := by simp [rowR, h]
theorem rowKs_R {row : List Cl} {v : Nat} (h : v ∈ kR (rowKs row)) : v ∈ rowR row := by
  induction row with
  | nil => simp [rowKs, kR] at h
  | cons c l ih =>
    simp only [rowKs, List.flatMap_cons, kR, List.map_append, List.mem_append] at h
    simp only [rowR, List.mem_append]
    rcases h with h | h
    · left
      cases c with
      | ow t => simp [clKs] at h
      | vw pl ks t => simp only [clR, List.mem_append]; exact .inr h
    · exact .inr (ih h)
theorem okB_loc (ha : Agr R S U) {c : Cl} (hc : ∀ v ∈ clR c, v ∈ R) : c.okB U.k = c.okB S.k := by
  cases c with
  | ow t => rfl
  | vw pl ks t => exact (keyB_agr ha fun v hv => hc v (by simp only [clR, List.mem_append]; exact .inr hv)).symm
end Go.Eng

namespace Go.Eng
variable {P : Program} {G : Glob} {R : List Nat} {S U S' U' S1 U1 : St} {md : Option Lab → List Key → Bool}

def eR (f : Nat → A) : EOp → List Nat
  | .p d x => d :: (x.rd f ++ kR (x.us f))
  | .asg d x => d :: opR f x
  | .tk d x => d :: opR f x
  | .box d x => d :: (10000 + d) :: opR f x
  | .alloc d _ => [d, 10000 + d]
  | .st a x _ => opR f a ++ opR f x
  | .bsl d _ ps => d :: opsR f ps
  | .build d _ ps => d :: opsR f (ps.map (·.2.2))
  | .app d x y _ _ => d :: (opR f x ++ opR f y)
  | .ext d x _ => d :: opR f (.t x)
  | .mks d x y _ _ => d :: (opR f x ++ opR f y)
  | .no d => []
  | .bsv d _ ps => d :: opsR f ps
  | .call d _ args => (match d with | some d => [d, 10000 + d] | none => []) ++ opsR f (args.map Arg.opd)

theorem lit1_loc (ha : Agr R S U) {x : Opd} (hx : ∀ v ∈ opR S.get x, v ∈ R) : lit1 x U.get = lit1 x S.get := lit1_congr (sl_loc ha hx)
theorem vrow_loc (ha : Agr R S U) {x : Opd} (hx : ∀ v ∈ opR S.get x, v ∈ R) : vrow x U.get = vrow x S.get := vrow_congr (sl_loc ha hx)

theorem eev_loc (x : EOp) {c : Prop} (h : eev S x = some (c, S')) (ha : Agr R S U) (hR : ∀ v ∈ eR S.get x, v ∈ R) : ∃ c' U', eev U x = some (c', U') ∧ (c → c') ∧ Lc R S U S' U' := by
  cases x with
  | p d x =>
    simp only [eev, Option.map_eq_some_iff] at h ⊢
    obtain ⟨⟨c0, a⟩, h1, h2⟩ := h
    simp only [Prod.mk.injEq] at h2
    obtain ⟨rfl, rfl⟩ := h2
    simp only [eR] at hR
    obtain ⟨c', k1, k2⟩ := pev_congr (K' := U.k) (f' := U.get) h1 (fun v hv => (ha.g v (hR v (by simp [hv]))).symm) (fun k hk hu => (ha.k k (hR _ (by
      refine List.mem_cons_of_mem _ (List.mem_append_right _ ?_); exact List.mem_map.2 ⟨k, hk, rfl⟩))).2 hu)
    exact ⟨c', U.set d a, ⟨(c', a), k1, rfl⟩, k2, Lc.set ha (hR _ (by simp))⟩
  | asg d x =>
    simp only [eR] at hR
    have hx : ∀ v ∈ opR S.get x, v ∈ R := fun v hv => hR v (List.mem_cons_of_mem _ hv)
    have hd : d ∈ R := hR d (by simp)
    simp only [eev] at h ⊢
    rw [ev_loc ha hx]
    have hmv : mvA x U.get = mvA x S.get := mvA_congr (sl_loc ha hx)
    split at h
    · simp only [Option.map_eq_some_iff] at h ⊢
      obtain ⟨⟨b, cs, S1⟩, h1, h2⟩ := h
      simp only [Prod.mk.injEq] at h2
      obtain ⟨rfl, rfl⟩ := h2
      obtain ⟨U1, k1, k2⟩ := rsv_loc ha hx h1
      exact ⟨True, _, ⟨(b, cs, U1), k1, rfl⟩, id, k2.trans (Lc.set (k2.agr ha) hd)⟩
    · cases h
    · cases h
    · cases h
    · cases h
    · simp only [Option.some.injEq, Prod.mk.injEq] at h
      obtain ⟨rfl, rfl⟩ := h
      simp only [Option.some.injEq, Prod.mk.injEq]
      rw [hmv]
      exact ⟨True, _, ⟨rfl, rfl⟩, id, Lc.set ha hd⟩
  | tk d x =>
    simp only [eR] at hR
    have hx : ∀ v ∈ opR S.get x, v ∈ R := fun v hv => hR v (List.mem_cons_of_mem _ hv)
    simp only [eev, Option.map_eq_some_iff] at h ⊢
    obtain ⟨⟨b, cs, S1⟩, h1, h2⟩ := h
    simp only [Prod.mk.injEq] at h2
    obtain ⟨rfl, rfl⟩ := h2
    obtain ⟨U1, k1, k2⟩ := rsv_loc ha hx h1
    exact ⟨True, _, ⟨(b, cs, U1), k1, rfl⟩, id, k2.trans (Lc.set (k2.agr ha) (hR d (by simp)))⟩
  | box d x =>
    simp only [eR] at hR
    have hx : ∀ v ∈ opR S.get x, v ∈ R := fun v hv => hR v (List.mem_cons_of_mem _ (List.mem_cons_of_mem _ hv))
    have hd : d ∈ R := hR d (by simp)
    have hd2 : 10000 + d ∈ R := hR _ (by simp)
    simp only [eev] at h ⊢
    split at h
    · rename_i b row S1 h1
      obtain ⟨U1, k1, k2⟩ := rsv_loc ha hx h1
      rw [k1]
      simp only
      rw [← (k2.agr ha).g _ hd2]
      split at h
      · simp only [Option.some.injEq, Prod.mk.injEq] at h
        obtain ⟨rfl, rfl⟩ := h
        have k3 : Lc R S1 U1 (S1.put (10000 + d) (.mem row)) (U1.put (10000 + d) (.mem row)) := Lc.put hd2
        exact ⟨_, _, rfl, id, k2.trans (k3.trans (Lc.set (k3.agr (k2.agr ha)) hd))⟩
      · cases h
    · cases h
  | alloc d z =>
    simp only [eR] at hR
    have hd : d ∈ R := hR d (by simp)
    have hd2 : 10000 + d ∈ R := hR _ (by simp)
    simp only [eev] at h ⊢
    rw [← ha.g _ hd2]
    split at h
    · simp only [Option.some.injEq, Prod.mk.injEq] at h
      obtain ⟨rfl, rfl⟩ := h
      have k3 : Lc R S U (S.put (10000 + d) (.mem (kc z))) (U.put (10000 + d) (.mem (kc z))) := Lc.put hd2
      exact ⟨_, _, rfl, id, k3.trans (Lc.set (k3.agr ha) hd)⟩
    · cases h
  | st a x n =>
    simp only [eR] at hR
    have hx : ∀ v ∈ opR S.get x, v ∈ R := fun v hv => hR v (List.mem_append_right _ hv)
    have hax : ∀ v ∈ opR S.get a, v ∈ R := fun v hv => hR v (List.mem_append_left _ hv)
    have hal : ∀ v ∈ aR S.get (a.ev S.get), v ∈ R := fun v hv => hax v (by
      cases a with
      | t s => exact List.mem_cons_of_mem _ hv
      | k c => simp [Opd.ev, aR, rowR, clR] at hv
      | z cs =>
        exfalso
        simp only [Opd.ev, aR] at hv
        clear h hR ha hx hax
        induction cs with
        | nil => cases hv
        | cons y l ih => simp only [List.map_cons, rowR, clR, List.nil_append] at hv; exact ih hv)
    simp only [eev] at h ⊢
    rw [ev_loc ha hax]
    split at h
    · rename_i r o hp
      have hr : r ∈ R := hal r (by rw [hp]; simp [aR])
      split at h
      · rename_i b row S1 h1
        obtain ⟨U1, k1, k2⟩ := rsv_loc ha hx h1
        rw [k1]
        simp only
        rw [← (k2.agr ha).g _ hr]
        split at h
        · rename_i R0 hR0
          split at h
          · rename_i hlt
            simp only [Option.some.injEq, Prod.mk.injEq] at h
            obtain ⟨rfl, rfl⟩ := h
            simp only [if_pos hlt]
            refine ⟨_, _, rfl, id, k2.trans ?_⟩
            exact ⟨([(r, .mem (splC R0 o row))], (List.range' o n).map fun j => (r, j)), rfl, rfl, fun k hk => by
              obtain ⟨j, _, rfl⟩ := List.mem_map.1 hk; simp [wrR], by simp [wrR, hr]⟩
          · cases h
        · cases h
      · cases h
    · rename_i r o p i oo ks row0 hp
      have hr : r ∈ R := hal r (by rw [hp]; simp [aR, peR])
      have hks : ∀ v ∈ kR ks, v ∈ R := fun v hv => hal v (by rw [hp]; simp only [aR, List.mem_append]; exact .inr hv)
      split at h
      · rename_i b row S1 h1
        obtain ⟨U1, k1, k2⟩ := rsv_loc ha hx h1
        rw [k1]
        simp only
        rw [← (k2.agr ha).g _ hr, ← keyB_agr (k2.agr ha) hks]
        split at h
        · rename_i ts t0 hts ht0
          split at h
          · rename_i md' sz rows hnd
            split at h
            · rename_i hlt
              simp only [Option.some.injEq, Prod.mk.injEq] at h
              obtain ⟨rfl, rfl⟩ := h
              simp only [if_pos hlt]
              refine ⟨_, _, rfl, id, k2.trans ?_⟩
              exact Lc.putk hr (by simp)
            · cases h
          · cases h
        · cases h
      · cases h
    · cases h
  | bsl d sz ps =>
    simp only [eR] at hR
    simp only [eev, Option.map_eq_some_iff] at h ⊢
    obtain ⟨⟨rows, S1⟩, h1, h2⟩ := h
    simp only [Prod.mk.injEq] at h2
    obtain ⟨rfl, rfl⟩ := h2
    obtain ⟨U1, k1, k2⟩ := rowsOf_loc _ _ _ _ _ _ ha (fun v hv => hR v (List.mem_cons_of_mem _ hv)) h1
    exact ⟨_, _, ⟨(rows, U1), k1, rfl⟩, id, k2.trans (Lc.set (k2.agr ha) (hR d (by simp)))⟩
  | build d z ps =>
    simp only [eR] at hR
    simp only [eev, Option.map_eq_some_iff] at h ⊢
    obtain ⟨⟨row, S1⟩, h1, h2⟩ := h
    simp only [Prod.mk.injEq] at h2
    obtain ⟨rfl, rfl⟩ := h2
    obtain ⟨U1, k1, k2⟩ := buildRow_loc _ _ _ _ _ _ ha (fun v hv => hR v (List.mem_cons_of_mem _ hv)) h1
    exact ⟨_, _, ⟨(row, U1), k1, rfl⟩, id, k2.trans (Lc.set (k2.agr ha) (hR d (by simp)))⟩
  | app d x y sz by' =>
    simp only [eR] at hR
    have hx : ∀ v ∈ opR S.get x, v ∈ R := fun v hv => hR v (by simp [hv])
    have hy : ∀ v ∈ opR S.get y, v ∈ R := fun v hv => hR v (by simp [hv])
    have hd : d ∈ R := hR d (by simp)
    simp only [eev] at h ⊢
    split at h
    · rename_i sz1 rows S1 h1
      obtain ⟨U1, k1, k2⟩ := rsv_loc ha hx h1
      have hy1 : ∀ v ∈ opR S1.get y, v ∈ R := fun v hv => hy v (rsv_dm h1 y v hv)
      rw [k1]
      simp only
      rw [vrow_loc (k2.agr ha) hy1]
      split at h
      · rename_i cc hc
        rw [okB_loc (k2.agr ha) (c := cc) fun v hv => hy1 v (vrow_kR hc (clR_row1 hv))]
        split at h
        · rename_i fz sz2 rows2 hct
          split at h
          · rename_i hfl
            simp only [Option.some.injEq, Prod.mk.injEq] at h
            obtain ⟨rfl, rfl⟩ := h
            simp only [if_pos hfl]
            exact ⟨_, _, rfl, id, k2.trans (Lc.set (k2.agr ha) hd)⟩
          · rename_i hfl
            simp only [if_neg hfl]
            split at h
            · rename_i sz3 rows3 S2 h2
              obtain ⟨U2, k3, k4⟩ := rsv_loc (k2.agr ha) hy1 h2
              rw [k3]
              simp only [Option.some.injEq, Prod.mk.injEq] at h
              obtain ⟨rfl, rfl⟩ := h
              exact ⟨_, _, rfl, id, k2.trans (k4.trans (Lc.set (k4.agr (k2.agr ha)) hd))⟩
            · cases h
        · cases h
      · cases h
    · cases h
  | ext d x m =>
    simp only [eR] at hR
    have hxR : x ∈ R := hR x (by simp [opR])
    simp only [eev] at h ⊢
    rw [← ha.g x hxR]
    split at h
    · rename_i rs hrs
      split at h
      · rename_i agg row hrow
        split at h
        · rename_i hlt
          simp only [Option.map_eq_some_iff] at h
          obtain ⟨⟨cs, S1⟩, h1, h2⟩ := h
          simp only [Prod.mk.injEq] at h2
          obtain ⟨rfl, rfl⟩ := h2
          obtain ⟨U1, k1, k2⟩ := rsvRow_loc hxR _ _ _ _ _ _ ha (fun v hv => hR v (by
            simp only [opR, hrs, aR]
            refine List.mem_cons_of_mem _ (List.mem_cons_of_mem _ (tupR_mem (List.mem_of_getElem? hrow) hv)))) h1
          simp only [if_pos hlt, Option.map_eq_some_iff]
          exact ⟨_, _, ⟨_, k1, rfl⟩, id, k2.trans (Lc.set (k2.agr ha) (hR d (by simp)))⟩
        · cases h
      · cases h
    · cases h
  | mks d x y z by' =>
    simp only [eR] at hR
    have hx : ∀ v ∈ opR S.get x, v ∈ R := fun v hv => hR v (by simp [hv])
    have hy : ∀ v ∈ opR S.get y, v ∈ R := fun v hv => hR v (by simp [hv])
    simp only [eev, intA] at h ⊢
    rw [lit1_loc ha hx, lit1_loc ha hy]
    split at h
    · simp only [Option.some.injEq, Prod.mk.injEq] at h
      obtain ⟨rfl, rfl⟩ := h
      exact ⟨_, _, rfl, id, Lc.set ha (hR d (by simp))⟩
    · cases h
  | call d f args => cases h
  | no d => cases h
  | bsv d sz ps =>
    simp only [eR] at hR
    simp only [eev, Option.map_eq_some_iff] at h ⊢
    obtain ⟨⟨rows, ks⟩, h1, h2⟩ := h
    simp only [Prod.mk.injEq] at h2
    obtain ⟨rfl, rfl⟩ := h2
    have key : ∀ (l : List Opd) (q : List Row × List Key), (∀ v ∈ opsR S.get l, v ∈ R) → viewsOf S.get l = some q → viewsOf U.get l = some q := by
      intro l
      induction l with
      | nil => intro q _ h; exact h
      | cons x l ih =>
        intro q hc h
        simp only [viewsOf] at h ⊢
        rw [vrow_loc ha fun v hv => hc v (by simp only [opsR, List.mem_append]; exact .inl hv)]
        split at h
        · simp only [Option.map_eq_some_iff] at h ⊢
          obtain ⟨q1, h3, h4⟩ := h
          exact ⟨q1, ih q1 (fun v hv => hc v (by simp only [opsR, List.mem_append]; exact .inr hv)) h3, h4⟩
        · cases h
    exact ⟨_, _, ⟨(rows, ks), key _ _ (fun v hv => hR v (List.mem_cons_of_mem _ hv)) h1, rfl⟩, id, Lc.set ha (hR d (by simp))⟩
end Go.Eng

namespace Go.Eng
variable {P : Program} {G : Glob} {R : List Nat} {S U S' U' S1 U1 : St} {md : Option Lab → List Key → Bool}

theorem stageMv_loc : ∀ (l : List Arg) (S U : St) (pre : List (Option (Bool × List Cl))) (S' : St), Agr R S U → (∀ v ∈ opsR S.get (l.map Arg.opd), v ∈ R) → stageMv S l = some (pre, S') → ∃ U', stageMv U l = some (pre, U') ∧ Lc R S U S' U' ∧ Dm S S' := by
  intro l
  induction l with
  | nil => intro S U pre S' ha hc h; simp only [stageMv, Option.some.injEq, Prod.mk.injEq] at h ⊢; obtain ⟨rfl, rfl⟩ := h; exact ⟨U, ⟨rfl, rfl⟩, Lc.refl _ _ _, Dm.refl _⟩
  | cons x l ih =>
    intro S U pre S' ha hc h
    have hc2 : ∀ v ∈ opsR S.get (l.map Arg.opd), v ∈ R := fun v hv => hc v (by simp only [List.map_cons, opsR, List.mem_append]; exact .inr hv)
    have hc1 : ∀ v ∈ opR S.get x.opd, v ∈ R := fun v hv => hc v (by simp only [List.map_cons, opsR, List.mem_append]; exact .inl hv)
    cases x with
    | mv x =>
      simp only [stageMv] at h ⊢
      split at h
      · rename_i agg row S1 h1
        obtain ⟨U1, k1, k2⟩ := rsv_loc (x := x) ha hc1 h1
        rw [k1]
        simp only
        split at h
        · rename_i hlt
          rw [if_pos hlt]
          split at h
          · rename_i r hr
            simp only [Option.map_eq_some_iff] at h
            obtain ⟨⟨p, S2⟩, h2, h3⟩ := h
            simp only [Prod.mk.injEq] at h3
            obtain ⟨rfl, rfl⟩ := h3
            obtain ⟨U2, k3, k4, k5⟩ := ih _ _ _ _ (k2.agr ha) (fun v hv => hc2 v (opsR_dm (rsv_dm h1) hv)) h2
            simp only [k3, hr]
            exact ⟨U2, rfl, k2.trans k4, (rsv_dm h1).trans k5⟩
          · cases h
        · cases h
      · cases h
    | _ =>
      simp only [stageMv, Option.map_eq_some_iff] at h ⊢
      obtain ⟨⟨p, S2⟩, h2, h3⟩ := h
      simp only [Prod.mk.injEq] at h3
      obtain ⟨rfl, rfl⟩ := h3
      obtain ⟨U2, k3, k4, k5⟩ := ih _ _ _ _ ha hc2 h2
      exact ⟨U2, ⟨(p, U2), k3, rfl⟩, k4, k5⟩

structure Cq (q q' : CIn) : Prop where
  a : q'.a = q.a
  gs : q'.gs = q.gs
  ks : q'.ks = q.ks
  mem : q'.mem = q.mem
  hid : q'.hid = q.hid
  c : q.c → q'.c
theorem ev_aR {x : Opd} {v : Nat} (h : v ∈ aR S.get (x.ev S.get)) : v ∈ opR S.get x := by
  cases x with
  | t s => exact List.mem_cons_of_mem _ h
  | k c => simp [Opd.ev, aR, rowR, clR] at h
  | z cs =>
    exfalso
    simp only [Opd.ev, aR] at h
    induction cs with
    | nil => cases h
    | cons y l ih => simp only [List.map_cons, rowR, clR, List.nil_append] at h; exact ih h
theorem rowR_take {row : List Cl} {n v : Nat} (h : v ∈ rowR (row.take n)) : v ∈ rowR row := by
  induction row generalizing n with
  | nil => simpa using h
  | cons c l ih =>
    cases n with
    | zero => simp [rowR] at h
    | succ n =>
      simp only [List.take_succ_cons, rowR, List.mem_append] at h ⊢
      rcases h with h | h
      · exact .inl h
      · exact .inr (ih h)
theorem rowR_drop {row : List Cl} {n v : Nat} (h : v ∈ rowR (row.drop n)) : v ∈ rowR row := by
  induction row generalizing n with
  | nil => simpa using h
  | cons c l ih =>
    cases n with
    | zero => simpa using h
    | succ n =>
      simp only [List.drop_succ_cons] at h
      simp only [rowR, List.mem_append]
      exact .inr (ih h)
theorem lnRow_loc (ha : Agr R S U) {m : Nat} : ∀ (row : List Cl) (o : Nat) (cs : List Cl) (ts : Row) (gs : List Grp) (ks : List Key), (∀ v ∈ rowR row, v ∈ R) → lnRow S m o row = some (cs, ts, gs, ks) →
    lnRow U m o row = some (cs, ts, gs, ks) ∧ (∀ y ∈ gs, ∀ v ∈ gRoot y, v ∈ R) ∧ ∀ v ∈ kR ks, v ∈ R := by
  intro row
  induction row with
  | nil =>
    intro o cs ts gs ks hc h
    simp only [lnRow, Option.some.injEq, Prod.mk.injEq] at h
    obtain ⟨rfl, rfl, rfl, rfl⟩ := h
    exact ⟨rfl, by simp, by simp [kR]⟩
  | cons c l ih =>
    intro o cs ts gs ks hc h
    simp only [lnRow] at h ⊢
    split at h
    · cases h
    · rename_i cs1 ts1 gs1 ks1 h1
      obtain ⟨k1, k2, k3⟩ := ih _ _ _ _ _ (fun v hv => hc v (by simp only [rowR, List.mem_append]; exact .inr hv)) h1
      rw [k1]
      simp only
      have hcl : ∀ v ∈ clR c, v ∈ R := fun v hv => hc v (by simp only [rowR, List.mem_append]; exact .inl hv)
      split at h
      · simp only [Option.some.injEq, Prod.mk.injEq] at h
        obtain ⟨rfl, rfl, rfl, rfl⟩ := h
        exact ⟨rfl, k2, k3⟩
      · rename_i pl lo ks0 md0 sz rows
        have hl : pl.1 ∈ R := hcl _ (by simp [clR, pls])
        rw [← ha.g _ hl]
        split at h
        · rename_i md2 sz2 rows2 hnd
          split at h
          · rename_i hcnd
            simp only [Option.some.injEq, Prod.mk.injEq] at h
            obtain ⟨rfl, rfl, rfl, rfl⟩ := h
            simp only [if_pos hcnd]
            refine ⟨trivial, fun y hy v hv => ?_, fun v hv => ?_⟩
            · rcases List.mem_cons.1 hy with rfl | hy
              · simp only [gRoot, List.mem_singleton] at hv; subst hv; exact hl
              · exact k2 y hy v hv
            · simp only [kR, List.map_append, List.mem_append] at hv
              rcases hv with hv | hv
              · exact hcl v (by simp only [clR, List.mem_append]; exact .inr hv)
              · exact k3 v hv
          · cases h
        · cases h
      · cases h
theorem argIn_loc (ha : Agr R S U) {m j : Nat} {x : Arg} (hx : ∀ v ∈ opR S.get x.opd, v ∈ R) {pre : Option (Bool × List Cl)} {q : CIn} (h : argIn S m j x pre = some q) :
    ∃ q', argIn U m j x pre = some q' ∧ Cq q q' ∧ ∀ y ∈ q.gs, ∀ v ∈ gRoot y, v ∈ R := by
  have hax : ∀ v ∈ aR S.get (x.opd.ev S.get), v ∈ R := fun v hv => hx v (ev_aR hv)
  cases x with
  | mv x =>
    cases pre with
    | none => cases h
    | some p =>
      obtain ⟨agg, row⟩ := p
      simp only [argIn, Option.some.injEq] at h
      subst h
      refine ⟨_, rfl, ⟨rfl, rfl, rfl, rfl, rfl, id⟩, fun y hy v hv => ?_⟩
      obtain ⟨o, c, _, _, rfl⟩ := sGrps_inv hy
      cases hv
  | rd x =>
    have hx : ∀ v ∈ opR S.get x, v ∈ R := hx
    have hax : ∀ v ∈ aR S.get (x.ev S.get), v ∈ R := hax
    simp only [argIn] at h ⊢
    rw [ev_loc ha hx, vrow_loc ha hx]
    split at h
    · rename_i f ks rows hev
      injection h with h; subst h
      refine ⟨_, rfl, ⟨rfl, rfl, rfl, rfl, rfl, ?_⟩, by simp⟩
      simp only [hev, aR] at hax
      rw [keyB_agr ha hax]; exact id
    · rename_i hnf
      split at h
      · rename_i agg row hv
        injection h with h; subst h
        refine ⟨_, rfl, ⟨rfl, rfl, rfl, rfl, rfl, ?_⟩, by simp⟩
        rw [keyB_agr ha fun v hv2 => hx v (vrow_kR hv (rowKs_R hv2))]; exact id
      · cases h
  | rp x n =>
    have hx : ∀ v ∈ opR S.get x, v ∈ R := hx
    have hax : ∀ v ∈ aR S.get (x.ev S.get), v ∈ R := hax
    simp only [argIn] at h ⊢
    rw [ev_loc ha hx]
    split at h
    · rename_i pl ks row hev
      injection h with h; subst h
      simp only [hev, aR] at hax
      refine ⟨_, rfl, ⟨rfl, rfl, rfl, rfl, rfl, ?_⟩, by simp⟩
      rw [keyB_agr ha fun v hv => hax v (List.mem_append_right _ hv)]; exact id
    · rename_i r o hev
      simp only [hev, aR] at hax
      rw [← ha.g r (hax r (by simp))]
      split at h
      · rename_i R0 hR0
        injection h with h; subst h
        refine ⟨_, rfl, ⟨rfl, rfl, rfl, rfl, rfl, ?_⟩, by simp⟩
        simp only [hR0, memR] at hax
        rw [keyB_agr ha fun v hv => hax v (List.mem_cons_of_mem _ (rowR_drop (rowR_take (rowKs_R hv))))]; exact id
      · cases h
    · cases h
  | pt x n =>
    have hx : ∀ v ∈ opR S.get x, v ∈ R := hx
    have hax : ∀ v ∈ aR S.get (x.ev S.get), v ∈ R := hax
    simp only [argIn] at h ⊢
    rw [ev_loc ha hx]
    split at h
    · rename_i r o hev
      simp only [hev, aR] at hax
      have hr : r ∈ R := hax r (by simp)
      rw [← ha.g r hr]
      split at h
      · rename_i R0 hR0
        split at h
        · rename_i ts hts
          split at h
          · rename_i hlt
            injection h with h; subst h
            simp only [if_pos hlt]
            exact ⟨_, rfl, ⟨rfl, rfl, rfl, rfl, rfl, id⟩, fun y hy v hv => by
              simp only [List.mem_singleton] at hy; subst hy
              simp only [gRoot, List.mem_singleton] at hv; subst hv; exact hr⟩
          · cases h
        · cases h
      · cases h
    · rename_i r o p i oo ks row0 hev
      simp only [hev, aR, peR] at hax
      have hr : r ∈ R := hax r (by simp)
      rw [← ha.g r hr]
      split at h
      · rename_i md2 sz rows hnd
        split at h
        · rename_i hlt
          injection h with h; subst h
          simp only [if_pos hlt]
          refine ⟨_, rfl, ⟨rfl, rfl, rfl, rfl, rfl, ?_⟩, fun y hy v hv => by
              simp only [List.mem_singleton] at hy; subst hy
              simp only [gRoot, List.mem_singleton] at hv; subst hv; exact hr⟩
          rw [keyB_agr ha fun v hv => hax v (List.mem_append_right _ hv)]; exact id
        · cases h
      · cases h
    · cases h
  | ln x =>
    have hx : ∀ v ∈ opR S.get x, v ∈ R := hx
    have hax : ∀ v ∈ aR S.get (x.ev S.get), v ∈ R := hax
    simp only [argIn] at h ⊢
    rw [vrow_loc ha hx]
    split at h
    · rename_i agg row hv
      split at h
      · rename_i cs ts gs ks hln
        injection h with h; subst h
        obtain ⟨k1, k2, k3⟩ := lnRow_loc ha _ _ _ _ _ _ (fun v hv2 => hx v (vrow_kR hv hv2)) hln
        rw [k1]
        refine ⟨_, rfl, ⟨rfl, rfl, rfl, rfl, rfl, ?_⟩, k2⟩
        rw [keyB_agr ha k3]; exact id
      · cases h
    · cases h
def Cqs : List CIn → List CIn → Prop
  | [], [] => True
  | q :: l, q' :: l' => Cq q q' ∧ Cqs l l'
  | _, _ => False
theorem argsIn_loc (ha : Agr R S U) : ∀ (l : List Arg) (m j : Nat) (pre : List (Option (Bool × List Cl))) (cs : List CIn), (∀ v ∈ opsR S.get (l.map Arg.opd), v ∈ R) → argsIn S m j l pre = some cs →
    ∃ cs', argsIn U m j l pre = some cs' ∧ Cqs cs cs' ∧ ∀ y ∈ csG cs, ∀ v ∈ gRoot y, v ∈ R := by
  intro l
  induction l with
  | nil =>
    intro m j pre cs hc h
    cases pre with
    | nil => simp only [argsIn, Option.some.injEq] at h ⊢; subst h; exact ⟨_, rfl, trivial, by simp [csG]⟩
    | cons p ps => cases h
  | cons x l ih =>
    intro m j pre cs hc h
    cases pre with
    | nil => cases h
    | cons p ps =>
      simp only [argsIn] at h ⊢
      split at h
      · rename_i q hq
        simp only [Option.map_eq_some_iff] at h
        obtain ⟨cs1, h1, rfl⟩ := h
        obtain ⟨q', k1, k2, k3⟩ := argIn_loc ha (fun v hv => hc v (by simp only [List.map_cons, opsR, List.mem_append]; exact .inl hv)) hq
        obtain ⟨cs', k4, k5, k6⟩ := ih _ _ _ _ (fun v hv => hc v (by simp only [List.map_cons, opsR, List.mem_append]; exact .inr hv)) h1
        rw [k1]
        simp only [k2.mem, k4]
        refine ⟨_, rfl, ⟨k2, k5⟩, fun y hy v hv => ?_⟩
        simp only [csG, List.flatMap_cons, List.mem_append] at hy
        rcases hy with hy | hy
        · exact k3 y hy v hv
        · exact k6 y hy v hv
      · cases h
theorem Cqs.eqs : ∀ {cs cs' : List CIn}, Cqs cs cs' → csA cs' = csA cs ∧ csG cs' = csG cs ∧ csK cs' = csK cs ∧ csM cs' = csM cs ∧ csH cs' = csH cs ∧ (csC cs → csC cs') := by
  intro cs
  induction cs with
  | nil => intro cs' h; cases cs' with | nil => exact ⟨rfl, rfl, rfl, rfl, rfl, id⟩ | cons _ _ => exact h.elim
  | cons q l ih =>
    intro cs' h
    cases cs' with
    | nil => exact h.elim
    | cons q' l' =>
      obtain ⟨h1, h2⟩ := h
      obtain ⟨e1, e2, e3, e4, e5, e6⟩ := ih h2
      simp only [csA, csG, csK, csM, csH, List.map_cons, List.flatMap_cons] at e1 e2 e3 e4 e5 ⊢
      exact ⟨by rw [h1.a, e1], by rw [h1.gs, e2], by rw [h1.ks, e3], by rw [h1.mem, e4], by rw [h1.hid, e5], fun hh => ⟨h1.c hh.1, e6 hh.2⟩⟩
theorem callIn_loc (ha : Agr R S U) {args : List Arg} (hc : ∀ v ∈ opsR S.get (args.map Arg.opd), v ∈ R) {cs : List CIn} (h : callIn S args = some (cs, S1)) :
    ∃ cs' U1, callIn U args = some (cs', U1) ∧ Cqs cs cs' ∧ Lc R S U S1 U1 ∧ ∀ y ∈ csG cs, ∀ v ∈ gRoot y, v ∈ R := by
  simp only [callIn] at h ⊢
  split at h
  · rename_i pre S2 h1
    simp only [Option.map_eq_some_iff] at h
    obtain ⟨cs1, h2, h3⟩ := h
    simp only [Prod.mk.injEq] at h3
    obtain ⟨rfl, rfl⟩ := h3
    obtain ⟨U1, k1, k2, k3⟩ := stageMv_loc _ _ _ _ _ ha hc h1
    obtain ⟨cs', k4, k5, k6⟩ := argsIn_loc (k2.agr ha) _ _ _ _ _ (fun v hv => hc v (opsR_dm k3 hv)) h2
    rw [k1]
    simp only [k4]
    exact ⟨_, _, rfl, k5, k2, k6⟩
  · cases h

variable {gs : List Grp} {ms : List Row} {hs : List (Nat × Row)}
theorem updG_loc (ha : Agr R S U) {y : Grp} (hy : ∀ v ∈ gRoot y, v ∈ R) (o : Nat) : updG U ms hs o y = updG S ms hs o y := by
  cases y with
  | cs m o => rfl
  | cm r o n j => rfl
  | ce r o p i oo n j => simp only [updG]; rw [ha.g r (hy r (by simp [gRoot]))]
  | ch l m o n => simp only [updG]; rw [ha.g l.1 (hy _ (by simp [gRoot]))]
theorem updF_loc (ha : Agr R S U) (hy : ∀ y ∈ gs, ∀ v ∈ gRoot y, v ∈ R) (v o : Nat) : updF U ms hs v o gs = updF S ms hs v o gs := by
  induction gs with
  | nil => rfl
  | cons y l ih =>
    simp only [updF]
    rw [ih fun z hz => hy z (List.mem_cons_of_mem _ hz), updG_loc ha (hy y (by simp))]
theorem retC_loc (ha : Agr R S U) : ∀ {gs : List Grp}, (∀ y ∈ gs, ∀ v ∈ gRoot y, v ∈ R) → retC S ms hs gs → retC U ms hs gs := by
  intro gs
  induction gs with
  | nil => intro _ _; trivial
  | cons y l ih =>
    intro hy h
    refine ⟨?_, ih (fun z hz => hy z (List.mem_cons_of_mem _ hz)) h.2⟩
    have h1 := h.1
    have hy1 := hy y (by simp)
    cases y with
    | ch l m o n =>
      simp only [retB] at h1 ⊢
      rw [← ha.g l.1 (hy1 _ (by simp [gRoot]))]; exact h1
    | _ => exact h1
theorem gKeys_root {y : Grp} {k : Key} (h : k ∈ gKeys y) : k.1 ∈ gRoot y := by
  cases y with
  | cm r o n j => simp only [gKeys, List.mem_map] at h; obtain ⟨x, _, rfl⟩ := h; simp [gRoot]
  | ce r o p i oo n j => simp only [gKeys, List.mem_singleton] at h; subst h; simp [gRoot]
  | ch l m o n => simp only [gKeys, List.mem_singleton] at h; subst h; simp [gRoot]
  | cs m o => cases h
theorem backS_loc (ha : Agr R S U) (hy : ∀ y ∈ gs, ∀ v ∈ gRoot y, v ∈ R) : Lc R S U (backS S ms hs gs) (backS U ms hs gs) := by
  have key : ∀ (l : List Nat), (∀ v ∈ l, v ∈ R) → ∃ E : List (Nat × A), backL S ms hs gs l = E ++ S.s ∧ backL U ms hs gs l = E ++ U.s ∧ E.map (·.1) = l := by
    intro l
    induction l with
    | nil => intro _; exact ⟨[], rfl, rfl, rfl⟩
    | cons r l ih =>
      intro hl
      obtain ⟨E, h1, h2, h3⟩ := ih fun v hv => hl v (List.mem_cons_of_mem _ hv)
      refine ⟨(r, mapAt (fun o => updF S ms hs r o gs) (S.get r)) :: E, by simp only [backL, h1]; rfl, ?_, by simp [h3]⟩
      simp only [backL, h2]
      rw [← ha.g r (hl r (by simp))]
      simp only [updF_loc ha hy]
      rfl
  have hroot : ∀ v ∈ gs.flatMap gRoot, v ∈ R := fun v hv => by
    obtain ⟨y, h1, h2⟩ := List.mem_flatMap.1 hv
    exact hy y h1 v h2
  obtain ⟨E, h1, h2, h3⟩ := key _ hroot
  refine ⟨(E, gs.flatMap gKeys), by simp only [backS, h1]; rfl, by simp only [backS, h2]; rfl, fun k hk => ?_, fun v hv => ?_⟩
  · simp only [wrR, h3]
    obtain ⟨y, q1, q2⟩ := List.mem_flatMap.1 hk
    exact List.mem_flatMap.2 ⟨y, q1, gKeys_root q2⟩
  · simp only [wrR, h3] at hv; exact hroot v hv
theorem callOut_loc (ha : Agr R S1 U1) {d : Option Nat} (hd : ∀ x, d = some x → x ∈ R ∧ 10000 + x ∈ R) {cs cs' : List CIn} (hq : Cqs cs cs') (hy : ∀ y ∈ csG cs, ∀ v ∈ gRoot y, v ∈ R) {rs : List Rv} (h : callOut S1 d cs rs ms hs = some S') :
    ∃ U', callOut U1 d cs' rs ms hs = some U' ∧ Lc R S1 U1 S' U' := by
  obtain ⟨_, e2, e3, _⟩ := hq.eqs
  have hb := backS_loc (ms := ms) (hs := hs) ha hy
  unfold callOut at h ⊢
  rw [e2, e3]
  split at h
  · split at h
    · rename_i hr
      injection h with h; subst h
      rw [if_pos hr]
      exact ⟨_, rfl, hb⟩
    · cases h
  · rename_i d row
    injection h with h; subst h
    obtain ⟨q1, q2⟩ := hd d rfl
    have k3 : Lc R (backS S1 ms hs (csG cs)) (backS U1 ms hs (csG cs)) _ _ := Lc.put (a := .mem (row.map .ow)) q2
    exact ⟨_, rfl, hb.trans (k3.trans (Lc.set (k3.agr (hb.agr ha)) q1))⟩
  · rename_i d agg row
    obtain ⟨q1, q2⟩ := hd d rfl
    split at h
    · rename_i hr
      injection h with h; subst h
      rw [if_pos hr]
      exact ⟨_, rfl, hb.trans (Lc.set (hb.agr ha) q1)⟩
    · cases h
  · rename_i d hn1 hn2
    obtain ⟨q1, q2⟩ := hd d rfl
    split at h
    · rename_i hr
      injection h with h; subst h
      simp only [if_pos hr]
      exact ⟨_, rfl, hb.trans (Lc.set (hb.agr ha) q1)⟩
    · cases h

/-- What an operation makes of a state. -/
def Out (P : Program) (G : Glob) (x : EOp) (S S' : St) : Prop := match x with
  | .call d f args => ∃ cs S1, callIn S args = some (cs, S1) ∧ csC cs ∧ gokB (csG cs) (csK cs) = true ∧ jB (csG cs) = true ∧ args.length ≤ 1000 ∧
      ∃ rs ms hs, FnD P G f (csA cs) (csM cs) (csH cs) rs ms hs ∧ retC S1 ms hs (csG cs) ∧ bxOk S1 (csG cs) (d.getD 4999) rs ∧ callOut S1 d cs rs ms hs = some S'
  | x => ∃ c, eev S x = some (c, S') ∧ c
theorem owp_out {x : EOp} {K : St → Prop} : owp P G x S K ↔ ∃ S', Out P G x S S' ∧ K S' := by
  cases x with
  | call d f args =>
    simp only [owp, Out]
    constructor
    · intro h
      split at h
      · rename_i cs S1 h1
        obtain ⟨a1, a2, a3, a4, rs, ms, hs, a5, a6, a7, a8⟩ := h
        split at a8
        · rename_i S' h2
          exact ⟨S', ⟨cs, S1, h1, a1, a2, a3, a4, rs, ms, hs, a5, a6, a7, h2⟩, a8⟩
        · exact a8.elim
      · exact h.elim
    · rintro ⟨S', ⟨cs, S1, h1, a1, a2, a3, a4, rs, ms, hs, a5, a6, a7, h2⟩, hk⟩
      rw [h1]
      exact ⟨a1, a2, a3, a4, rs, ms, hs, a5, a6, a7, by rw [h2]; exact hk⟩
  | _ =>
    simp only [owp, Out]
    constructor
    · intro h
      split at h
      · rename_i c S' he; exact ⟨S', ⟨c, he, h.1⟩, h.2⟩
      · exact h.elim
    · rintro ⟨S', ⟨c, he, hc⟩, hk⟩
      rw [he]; exact ⟨hc, hk⟩
theorem out_loc {x : EOp} (h : Out P G x S S') (ha : Agr R S U) (hR : ∀ v ∈ eR S.get x, v ∈ R) : ∃ U', Out P G x U U' ∧ Lc R S U S' U' := by
  cases x with
  | call d f args =>
    obtain ⟨cs, S1, h1, a1, a2, a3, a4, rs, ms, hs, a5, a6, a7, h2⟩ := h
    simp only [eR] at hR
    obtain ⟨cs', U1, k1, k2, k3, k4⟩ := callIn_loc ha (fun v hv => hR v (List.mem_append_right _ hv)) h1
    have ha1 := k3.agr ha
    obtain ⟨e1, e2, e3, e4, e5, e6⟩ := k2.eqs
    have hd : ∀ x, d = some x → x ∈ R ∧ 10000 + x ∈ R := fun x e => by subst e; exact ⟨hR _ (by simp), hR _ (by simp)⟩
    obtain ⟨U', k5, k6⟩ := callOut_loc ha1 hd k2 k4 h2
    refine ⟨U', ⟨cs', U1, k1, e6 a1, by rw [e2, e3]; exact a2, by rw [e2]; exact a3, a4, rs, ms, hs, by rw [e1, e4, e5]; exact a5, by rw [e2]; exact retC_loc ha1 k4 a6, ?_, k5⟩, k3.trans k6⟩
    rw [e2]
    cases d with
    | some d =>
      unfold bxOk at a7 ⊢
      split at a7
      · rw [Option.getD_some, ← ha1.g _ (hd d rfl).2]; exact a7
      · trivial
    | none =>
      unfold callOut at h2
      split at h2
      · rename_i rs' hrs
        split at h2
        · rename_i hr
          unfold bxOk
          split
          · simp [rvB] at hr
          · trivial
        · cases h2
      all_goals first | (rename_i hh _; cases hh; done) | (rename_i hh _ _; cases hh; done) | (rename_i hh; cases hh; done)
  | _ =>
    obtain ⟨c, he, hc⟩ := h
    obtain ⟨c', U', k1, k2, k3⟩ := eev_loc _ he ha hR
    exact ⟨U', ⟨c', k1, k2 hc⟩, k3⟩
end Go.Eng

namespace Go.Eng
variable {P : Program} {G : Glob} {S U S' U' : St}

structure Rc where
  R : List Nat
  W : List Nat
  aft : List Nat
def dstL (x : EOp) : List Nat := match x.dst with | some d => [d] | none => []
/-- Where an operation looks, and its guard. -/
def gR (f : Nat → A) (x : AO) : List Nat := match x.guard with
  | none => eR f x.op
  | some (s, _) => opR f (.t s) ++ (dstL x.op ++ eR f x.op)
def gOut (P : Program) (G : Glob) (x : AO) (S S' : St) : Prop := match x.guard with
  | none => Out P G x.op S S'
  | some (s, b) => (gv S.get s = some (.bool b) ∧ Out P G x.op S S') ∨ ∃ v, gv S.get s = some v ∧ v ≠ .bool b ∧ S' = skipPut S x.op.dst
theorem rwp1 {x : AO} {K : St → Prop} : rwp P G [x] S K ↔ ∃ S', gOut P G x S S' ∧ K S' := by
  obtain ⟨gd, op, af⟩ := x
  cases gd with
  | none => exact owp_out
  | some p =>
    obtain ⟨s, b⟩ := p
    simp only [rwp, gOut]
    constructor
    · intro h
      split at h
      · rename_i b' hb
        by_cases e : b' = .bool b
        · subst e
          obtain ⟨S', h1, h2⟩ := owp_out.1 (h.1 rfl)
          exact ⟨S', .inl ⟨hb, h1⟩, h2⟩
        · exact ⟨_, .inr ⟨b', hb, e, rfl⟩, h.2 e⟩
      · exact h.elim
    · rintro ⟨S', ⟨h1, h2⟩ | ⟨b', h1, h2, rfl⟩, h3⟩
      · rw [h1]
        exact ⟨fun _ => owp_out.2 ⟨S', h2, h3⟩, fun e => absurd rfl e⟩
      · rw [h1]
        exact ⟨fun e => absurd e h2, fun _ => h3⟩
theorem gout_loc {x : AO} {R : List Nat} (h : gOut P G x S S') (ha : Agr R S U) (hR : ∀ v ∈ gR S.get x, v ∈ R) : ∃ U', gOut P G x U U' ∧ Lc R S U S' U' := by
  obtain ⟨gd, op, af⟩ := x
  cases gd with
  | none => exact out_loc h ha hR
  | some p =>
    obtain ⟨s, b⟩ := p
    have hs : U.get s = S.get s := (ha.g s (hR s (by simp [gR, opR]))).symm
    have hl : gv U.get s = gv S.get s := by
      unfold gv
      rw [hs]
      unfold gvA
      rw [lit1_loc ha fun v hv => hR v (by simp [gR, hv])]
    rcases h with ⟨h1, h2⟩ | ⟨b', h1, h2, rfl⟩
    · obtain ⟨U', q1, q2⟩ := out_loc h2 ha fun v hv => hR v (by simp [gR, hv])
      exact ⟨U', .inl ⟨by rw [hl]; exact h1, q1⟩, q2⟩
    · refine ⟨_, .inr ⟨b', by rw [hl]; exact h1, h2, rfl⟩, ?_⟩
      show Lc R S U (skipPut S op.dst) (skipPut U op.dst)
      cases hd : op.dst with
      | none => exact Lc.refl _ _ _
      | some d => exact Lc.set ha (hR d (by simp [gR, dstL, hd]))
def rcd (x : AO) (S S' : St) : Rc := ⟨gR S.get x, (S'.s.take (S'.s.length - S.s.length)).map (·.1), x.aft⟩
def disjB (a b : List Nat) : Bool := a.all fun v => !(b.elem v)
def cloB (cs : List (List Nat)) (af : List Nat) : List Nat := af ++ af.flatMap fun j => cs.getD j []
def chkOne (r : Rc) (c : List Nat) : Nat → List (Rc × List Nat) → Bool
  | _, [] => true
  | j, q :: l => (c.elem j || (disjB r.W q.1.R && disjB q.1.W r.R)) && chkOne r c (j + 1) l
def chkGo : List Rc → List (Rc × List Nat) → Bool
  | [], _ => true
  | r :: l, acc => chkOne r (cloB (acc.map (·.2)) r.aft) 0 acc && chkGo l (acc ++ [(r, cloB (acc.map (·.2)) r.aft)])
/-- The order of the text, and what makes every other as good. -/
def twp (P : Program) (G : Glob) : List AO → List Rc → St → (St → Prop) → Prop
  | [], acc, S, K => chkGo acc [] = true ∧ K S
  | x :: l, acc, S, K => rwp P G [x] S fun S' => twp P G l (acc ++ [rcd x S S']) S' K

theorem disjB_iff {a b : List Nat} (h : disjB a b = true) : ∀ v ∈ a, v ∉ b := by
  intro v hv hb
  simp only [disjB, List.all_eq_true, Bool.not_eq_true'] at h
  have := h v hv
  rw [List.elem_eq_true_of_mem hb] at this; cases this
/-- What the check tells: r the records, c the closures. -/
theorem chkOne_at {r : Rc} {c : List Nat} : ∀ (l : List (Rc × List Nat)) (j i : Nat) (q : Rc × List Nat), chkOne r c j l = true → l[i]? = some q → j + i ∈ c ∨ ((∀ v ∈ r.W, v ∉ q.1.R) ∧ ∀ v ∈ q.1.W, v ∉ r.R) := by
  intro l
  induction l with
  | nil => intro j i q _ h; simp at h
  | cons p l ih =>
    intro j i q h hi
    simp only [chkOne, Bool.and_eq_true, Bool.or_eq_true] at h
    cases i with
    | zero =>
      simp at hi; subst hi
      rcases h.1 with h1 | h1
      · exact .inl (List.mem_of_elem_eq_true h1)
      · exact .inr ⟨disjB_iff h1.1, disjB_iff h1.2⟩
    | succ i =>
      have := ih (j + 1) i q h.2 (by simpa using hi)
      rwa [show j + 1 + i = j + (i + 1) by omega] at this
theorem chkGo_at : ∀ (l : List Rc) (acc : List (Rc × List Nat)), chkGo l acc = true → ∃ cl : List (List Nat), cl.length = l.length ∧
    ∀ j r, l[j]? = some r → ∃ c, cl[j]? = some c ∧ (∀ i ∈ c, i ∈ r.aft ∨ ∃ m ∈ r.aft, i ∈ ((acc.map (·.2)) ++ cl.take j).getD m []) ∧
      ∀ i q, i < acc.length + j → (acc.map (·.1) ++ l.take j)[i]? = some q → i ∈ c ∨ ((∀ v ∈ r.W, v ∉ q.R) ∧ ∀ v ∈ q.W, v ∉ r.R) := by
  intro l
  induction l with
  | nil => intro acc _; exact ⟨[], rfl, fun j r h => by simp at h⟩
  | cons r l ih =>
    intro acc h
    simp only [chkGo, Bool.and_eq_true] at h
    obtain ⟨cl, h1, h2⟩ := ih _ h.2
    refine ⟨cloB (acc.map (·.2)) r.aft :: cl, by simp [h1], fun j r' hj => ?_⟩
    cases j with
    | zero =>
      simp at hj; subst hj
      refine ⟨_, rfl, fun i hi => ?_, fun i q hi hq => ?_⟩
      · simp only [cloB, List.mem_append, List.mem_flatMap] at hi
        simpa using hi
      · simp only [List.take_zero, List.append_nil, List.getElem?_map, Option.map_eq_some_iff] at hq
        obtain ⟨p, hp, rfl⟩ := hq
        have := chkOne_at _ _ _ _ h.1 hp
        rwa [Nat.zero_add] at this
    | succ j =>
      obtain ⟨c, q1, q2, q3⟩ := h2 j r' (by simpa using hj)
      refine ⟨c, by simpa using q1, fun i hi => ?_, fun i q hi hq => ?_⟩
      · rcases q2 i hi with h3 | ⟨m, h3, h4⟩
        · exact .inl h3
        · exact .inr ⟨m, h3, by simpa using h4⟩
      · exact q3 i q (by simp; omega) (by simpa using hq)

theorem keepsL_all {kp : List Nat} {l : List (Nat × A)} : keepsL kp l = true ↔ ∀ v ∈ l.map (·.1), v < 15000 ∨ v ∈ kp := by
  induction l with
  | nil => simp [keepsL]
  | cons p l ih =>
    simp only [keepsL, Bool.and_eq_true, Bool.or_eq_true, decide_eq_true_eq, List.map_cons, List.mem_cons, ih]
    constructor
    · rintro ⟨h1, h2⟩ v (rfl | hv)
      · rcases h1 with h1 | h1
        · exact .inl h1
        · exact .inr (List.mem_of_elem_eq_true h1)
      · exact h2 v hv
    · intro h
      refine ⟨?_, fun v hv => h v (.inr hv)⟩
      rcases h p.1 (.inl rfl) with h1 | h1
      · exact .inl h1
      · exact .inr (List.elem_eq_true_of_mem h1)
theorem keyB_same {K K' : List Key} (h : ∀ k, k ∈ K ↔ k ∈ K') (ks : List Key) : keyB K ks = keyB K' ks := by
  have := keyB_agr (R := kR ks) (S := ⟨[], K⟩) (U := ⟨[], K'⟩) ⟨fun _ _ => rfl, fun k _ => h k⟩ (ks := ks) (fun v hv => hv)
  exact this
theorem nmA_same {K K' : List Key} (h : ∀ k, k ∈ K ↔ k ∈ K') (kp : List Nat) (a : A) : nmA K kp a = nmA K' kp a := by
  have hc : nmC K kp = nmC K' kp := by
    funext c
    cases c with
    | ow t => rfl
    | vw pl ks t => cases t <;> simp only [nmC] <;> rw [keyB_same h ks]
  cases a <;> simp only [nmA, hc] <;> rw [keyB_same h]

section
variable (S : St) (D : Nat → Dl)
/-- What a slot holds when the operations of p have gone. -/
noncomputable def curN (p : Nat → Prop) [DecidablePred p] : Nat → Nat → A
  | 0, v => S.get v
  | n + 1, v => if p n ∧ v ∈ wrR (D n) then getL (D n).1 v else curN p n v
theorem curN_congr {p q : Nat → Prop} [DecidablePred p] [DecidablePred q] {v : Nat} : ∀ {n : Nat}, (∀ j, j < n → v ∈ wrR (D j) → (p j ↔ q j)) → curN S D p n v = curN S D q n v := by
  intro n
  induction n with
  | zero => intro _; rfl
  | succ n ih =>
    intro h
    simp only [curN]
    rw [ih fun j hj => h j (by omega)]
    by_cases hv : v ∈ wrR (D n)
    · have := h n (by omega) hv
      by_cases hp : p n
      · rw [if_pos ⟨hp, hv⟩, if_pos ⟨this.1 hp, hv⟩]
      · rw [if_neg (fun e => hp e.1), if_neg (fun e => hp (this.2 e.1))]
    · rw [if_neg (fun e => hv e.2), if_neg (fun e => hv e.2)]
theorem curN_last {p : Nat → Prop} [DecidablePred p] {v i : Nat} (hp : p i) (hv : v ∈ wrR (D i)) : ∀ {n : Nat}, i < n → (∀ j, i < j → j < n → p j → v ∉ wrR (D j)) → curN S D p n v = getL (D i).1 v := by
  intro n
  induction n with
  | zero => intro h; omega
  | succ n ih =>
    intro h hl
    simp only [curN]
    by_cases e : i = n
    · subst e; rw [if_pos ⟨hp, hv⟩]
    · rw [if_neg (fun e2 => hl n (by omega) (by omega) e2.1 e2.2)]
      exact ih (by omega) fun j h1 h2 => hl j h1 (by omega)
end

/-- What the order of the text tells. -/
structure TF (P : Program) (G : Glob) (l : List AO) (S : St) (st : Nat → St) (D : Nat → Dl) : Prop where
  z : st 0 = S
  o : ∀ (i : Nat) (x : AO), l[i]? = some x → gOut P G x (st i) (st (i + 1))
  p : ∀ (i : Nat) (x : AO), l[i]? = some x → st (i + 1) = (st i).plus (D i) ∧ (∀ k ∈ (D i).2, k.1 ∈ wrR (D i)) ∧ ∀ v ∈ wrR (D i), v ∈ gR (st i).get x

theorem twp_facts {P : Program} {G : Glob} {K : St → Prop} : ∀ (l : List AO) (acc : List Rc) (S : St), twp P G l acc S K → ∃ (st : Nat → St) (D : Nat → Dl), TF P G l S st D ∧ K (st l.length) ∧
    ∃ rs : List Rc, rs.length = l.length ∧ chkGo (acc ++ rs) [] = true ∧ ∀ (i : Nat) (x : AO), l[i]? = some x → rs[i]? = some (Rc.mk (gR (st i).get x) (wrR (D i)) x.aft) := by
  intro l
  induction l with
  | nil =>
    intro acc S h
    refine ⟨fun _ => S, fun _ => ([], []), ⟨rfl, fun i x h => by simp at h, fun i x h => by simp at h⟩, h.2, [], rfl, by simpa using h.1, fun i x h => by simp at h⟩
  | cons x l ih =>
    intro acc S h
    simp only [twp] at h
    obtain ⟨S', ho, h⟩ := rwp1.1 h
    obtain ⟨U', k1, D0, k2, k3, k4, k5⟩ := gout_loc (R := gR S.get x) ho ⟨fun v _ => rfl, fun k _ => Iff.rfl⟩ fun v hv => hv
    obtain ⟨st, D, ⟨z, o, p⟩, hK, rs, r1, r2, r3⟩ := ih _ _ h
    have hW : (S'.s.take (S'.s.length - S.s.length)).map (·.1) = wrR D0 := by
      rw [k2]
      simp only [St.plus, List.length_append, Nat.add_sub_cancel]
      rw [List.take_left]; rfl
    refine ⟨fun i => match i with | 0 => S | i + 1 => st i, fun i => match i with | 0 => D0 | i + 1 => D i, ⟨rfl, ?_, ?_⟩, hK, rcd x S S' :: rs, by simp [r1], by simpa using r2, ?_⟩
    · intro i y hy
      cases i with
      | zero => simp at hy; subst hy; show gOut P G _ S (st 0); rw [z]; exact ho
      | succ i => exact o i y (by simpa using hy)
    · intro i y hy
      cases i with
      | zero => simp at hy; subst hy; exact ⟨by show st 0 = _; rw [z]; exact k2, k4, k5⟩
      | succ i => exact p i y (by simpa using hy)
    · intro i y hy
      cases i with
      | zero =>
        simp at hy; subst hy
        simp only [List.getElem?_cons_zero, rcd, hW]
      | succ i => simpa using r3 i y (by simpa using hy)

theorem draw_any {l : List AO} {S : St} {kp : List Nat} {Q : AEx → St → Prop} (h : twp P G l [] S (endK kp Q)) : sAny P G l l.length [] S (endK kp Q) := by
  obtain ⟨st, D, ⟨z, ho, hp⟩, hK, rs, hr1, hr2, hr3⟩ := twp_facts l [] S h
  obtain ⟨cl, hc1, hc2⟩ := chkGo_at _ _ (by simpa using hr2)
  have hx : ∀ i, i < l.length → ∃ x, l[i]? = some x := fun i hi => ⟨_, List.getElem?_eq_getElem hi⟩
  have hclo : ∀ j c, cl[j]? = some c → j < l.length → ∀ i ∈ c, ∃ x, l[j]? = some x ∧ (i ∈ x.aft ∨ ∃ m ∈ x.aft, m < j ∧ ∃ c', cl[m]? = some c' ∧ i ∈ c') := fun j c hj hlt i hi => by
    obtain ⟨x, hxj⟩ := hx j hlt
    obtain ⟨c2, q1, q2, _⟩ := hc2 j _ (hr3 j x hxj)
    rw [hj] at q1; injection q1 with q1; subst q1
    refine ⟨x, hxj, ?_⟩
    rcases q2 i hi with h1 | ⟨m, h1, h2⟩
    · exact .inl h1
    · right
      simp only [List.map_nil, List.nil_append] at h2
      rw [List.getD_eq_getElem?_getD, List.getElem?_take] at h2
      by_cases hm : m < j
      · rw [if_pos hm] at h2
        cases hcm : cl[m]? with
        | none => rw [hcm] at h2; simp at h2
        | some c' => rw [hcm] at h2; exact ⟨m, h1, hm, c', hcm, by simpa using h2⟩
      · rw [if_neg hm] at h2; simp at h2
  -- downward closed sets
  have hdown : ∀ (done : List Nat), (∀ j ∈ done, j < l.length) → (∀ j ∈ done, ∀ x, l[j]? = some x → ∀ i ∈ x.aft, i ∈ done) → ∀ j, ∀ c, cl[j]? = some c → j < l.length → (∀ x, l[j]? = some x → ∀ i ∈ x.aft, i ∈ done) → ∀ i ∈ c, i ∈ done := by
    intro done hlt hdn j
    induction j using Nat.strongRecOn with
    | _ j ih =>
      intro c hc hj hax i hi
      obtain ⟨x, hxj, h1 | ⟨m, h1, h2, c', h3, h4⟩⟩ := hclo j c hc hj i hi
      · exact hax x hxj i h1
      · have hm := hax x hxj m h1
        exact ih m h2 c' h3 (by omega) (fun y hy k hk => hdn m hm y hy k hk) i h4
  have hapart : ∀ i j xi xj, i < j → l[i]? = some xi → l[j]? = some xj → ∃ c, cl[j]? = some c ∧ (i ∈ c ∨ ((∀ v ∈ wrR (D j), v ∉ gR (st i).get xi) ∧ ∀ v ∈ wrR (D i), v ∉ gR (st j).get xj)) := fun i j xi xj hij hi hj => by
    obtain ⟨c, q1, _, q3⟩ := hc2 j _ (hr3 j xj hj)
    have := q3 i _ (by simpa using hij) (by
      simp only [List.map_nil, List.nil_append]
      rw [List.getElem?_take, if_pos hij]; exact hr3 i xi hi)
    exact ⟨c, q1, this⟩
  -- the states of the text's order
  have hst : ∀ i, i ≤ l.length → (∀ v, (st i).get v = curN S D (· < i) l.length v) ∧ (∀ k, k ∈ (st i).k ↔ k ∈ S.k ∨ ∃ j, j < i ∧ k ∈ (D j).2) ∧ ∀ v, v ∈ (st i).s.map (·.1) ↔ v ∈ S.s.map (·.1) ∨ ∃ j, j < i ∧ v ∈ wrR (D j) := by
    intro i
    induction i with
    | zero =>
      intro _
      rw [z]
      refine ⟨fun v => ?_, fun k => by simp, fun v => by simp⟩
      have : ∀ n, curN S D (· < 0) n v = S.get v := by
        intro n
        induction n with
        | zero => rfl
        | succ n ih => simp only [curN]; rw [if_neg (by rintro ⟨h, _⟩; omega), ih]
      exact (this _).symm
    | succ i ih =>
      intro hi
      obtain ⟨h1, h2, h3⟩ := ih (by omega)
      obtain ⟨x, hxi⟩ := hx i (by omega)
      obtain ⟨k1, _, _⟩ := hp i x hxi
      refine ⟨fun v => ?_, fun k => ?_, fun v => ?_⟩
      · rw [k1, plus_get]
        by_cases hv : v ∈ wrR (D i)
        · rw [if_pos hv]
          exact (curN_last S D (p := (· < i + 1)) (by show i < i + 1; omega) hv (by omega) fun j a b c => by have : j < i + 1 := c; omega).symm
        · rw [if_neg hv, h1 v]
          refine curN_congr S D fun j hj hvj => ?_
          constructor
          · intro a; show j < i + 1; have : j < i := a; omega
          · intro a
            show j < i
            have : j < i + 1 := a
            rcases Nat.lt_or_ge j i with h | h
            · exact h
            · have : j = i := by omega
              subst this; exact absurd hvj hv
      · rw [k1, plus_k, h2 k]
        constructor
        · rintro (h | h | ⟨j, a, b⟩)
          · exact .inr ⟨i, by omega, h⟩
          · exact .inl h
          · exact .inr ⟨j, by omega, b⟩
        · rintro (h | ⟨j, a, b⟩)
          · exact .inr (.inl h)
          · by_cases e : j = i
            · subst e; exact .inl b
            · exact .inr (.inr ⟨j, by omega, b⟩)
      · rw [k1]
        simp only [St.plus, List.map_append, List.mem_append]
        have h3' := h3 v
        constructor
        · rintro (h | h)
          · exact .inr ⟨i, by omega, h⟩
          · rcases h3'.1 h with h | ⟨j, a, b⟩
            · exact .inl h
            · exact .inr ⟨j, by omega, b⟩
        · rintro (h | ⟨j, a, b⟩)
          · exact .inr (h3'.2 (.inl h))
          · by_cases e : j = i
            · subst e; exact .inl b
            · exact .inr (h3'.2 (.inr ⟨j, by omega, b⟩))
  have key : ∀ (n : Nat) (done : List Nat) (T : St), (∀ i ∈ done, i < l.length) → done.Nodup → n + done.length = l.length → (∀ j ∈ done, ∀ x, l[j]? = some x → ∀ i ∈ x.aft, i ∈ done) →
      (∀ v, T.get v = curN S D (· ∈ done) l.length v) → (∀ k, k ∈ T.k ↔ k ∈ S.k ∨ ∃ j, j ∈ done ∧ k ∈ (D j).2) → (∀ v, v ∈ T.s.map (·.1) ↔ v ∈ S.s.map (·.1) ∨ ∃ j, j ∈ done ∧ v ∈ wrR (D j)) →
      sAny P G l n done T (endK kp Q) := by
    intro n
    induction n with
    | zero =>
      intro done T hd hnd hlen hdn hgt hkt hst2
      have hall : ∀ i, i < l.length → i ∈ done := fun i hi => by
        apply Classical.byContradiction
        intro hni
        have hsub : done ⊆ (List.range l.length).erase i := fun j hj => by
          have hji : j ≠ i := by rintro rfl; exact hni hj
          exact (List.mem_erase_of_ne hji).2 (List.mem_range.2 (hd j hj))
        have hle := nd_len hnd hsub
        have hin : i ∈ List.range l.length := List.mem_range.2 hi
        rw [List.length_erase_of_mem hin, List.length_range] at hle
        omega
      obtain ⟨e1, e2, e3⟩ := hst l.length (Nat.le_refl _)
      obtain ⟨z1, z2⟩ := hK
      have hge : ∀ v, T.get v = (st l.length).get v := fun v => by
        rw [hgt v, e1 v]
        exact curN_congr S D fun j hj _ => ⟨fun _ => hj, fun _ => hall j hj⟩
      have hke : ∀ k, k ∈ T.k ↔ k ∈ (st l.length).k := fun k => by
        rw [hkt k, e2 k]
        constructor
        · rintro (h | ⟨j, a, b⟩)
          · exact .inl h
          · exact .inr ⟨j, hd j a, b⟩
        · rintro (h | ⟨j, a, b⟩)
          · exact .inl h
          · exact .inr ⟨j, hall j a, b⟩
      refine ⟨?_, ?_⟩
      · refine keepsL_all.2 fun v hv => keepsL_all.1 z1 v ?_
        rw [e3 v]
        rcases (hst2 v).1 hv with h | ⟨j, a, b⟩
        · exact .inl h
        · exact .inr ⟨j, hd j a, b⟩
      · have hnorm : T.norm kp = (st l.length).norm kp := by
          have : ∀ m, nmL T kp m = nmL (st l.length) kp m := by
            intro m
            induction m with
            | nil => rfl
            | cons k m ih => simp only [nmL]; rw [hge k, nmA_same hke, ih]
          simp only [St.norm]
          rw [this]
        rw [hnorm]; exact z2
    | succ n ih =>
      intro done T hd hnd hlen hdn hgt hkt hst2 i x hxi hni haf
      have hilt : i < l.length := (List.getElem?_eq_some_iff.1 hxi).1
      obtain ⟨e1, e2, e3⟩ := hst i (by omega)
      obtain ⟨p1, p2, p3⟩ := hp i x hxi
      -- who has written what the operation looks at
      have hsame : ∀ v ∈ gR (st i).get x, ∀ j, j < l.length → v ∈ wrR (D j) → (j < i ↔ j ∈ done) := fun v hv j hj hvj => by
        obtain ⟨xj, hxj⟩ := hx j hj
        constructor
        · intro hji
          obtain ⟨c, hc, h1 | ⟨_, h1⟩⟩ := hapart j i xj x hji hxj hxi
          · exact hdown done hd hdn i c hc hilt (fun y hy => by rw [hxi] at hy; injection hy with hy; subst hy; exact haf) j h1
          · exact absurd hv (h1 v hvj)
        · intro hjd
          have hne : j ≠ i := by rintro rfl; exact hni hjd
          rcases Nat.lt_or_ge j i with h | h
          · exact h
          · exfalso
            obtain ⟨c, hc, h1 | ⟨h1, _⟩⟩ := hapart i j x xj (by omega) hxi hxj
            · exact hni (hdown done hd hdn j c hc hj (fun y hy => hdn j hjd y hy) i h1)
            · exact h1 v hvj hv
      have hagr : Agr (gR (st i).get x) (st i) T := by
        refine ⟨fun v hv => ?_, fun k hk => ?_⟩
        · rw [e1 v, hgt v]
          exact curN_congr S D fun j hj hvj => hsame v hv j hj hvj
        · rw [e2 k, hkt k]
          constructor
          · rintro (h | ⟨j, a, b⟩)
            · exact .inl h
            · have hjl : j < l.length := by omega
              obtain ⟨xj, hxj⟩ := hx j hjl
              exact .inr ⟨j, (hsame _ hk j hjl ((hp j xj hxj).2.1 k b)).1 a, b⟩
          · rintro (h | ⟨j, a, b⟩)
            · exact .inl h
            · have hjl := hd j a
              obtain ⟨xj, hxj⟩ := hx j hjl
              exact .inr ⟨j, (hsame _ hk j hjl ((hp j xj hxj).2.1 k b)).2 a, b⟩
      obtain ⟨T', o1, D', o2, o3, _, _⟩ := gout_loc (ho i x hxi) hagr fun v hv => hv
      have hDD : D' = D i := by
        rw [p1] at o2
        simp only [St.plus, St.mk.injEq] at o2
        obtain ⟨q1, q2⟩ := o2
        exact Prod.ext (List.append_cancel_right q1).symm (List.append_cancel_right q2).symm
      subst hDD
      refine rwp1.2 ⟨T', o1, ?_⟩
      show sAny P G l n (i :: done) T' (endK kp Q)
      subst o3
      refine ih (i :: done) _ (fun j hj => ?_) (List.nodup_cons.2 ⟨hni, hnd⟩) (by simp; omega) (fun j hj y hy k hk => ?_) (fun v => ?_) (fun k => ?_) (fun v => ?_)
      · rcases List.mem_cons.1 hj with rfl | hj
        · exact hilt
        · exact hd j hj
      · rcases List.mem_cons.1 hj with rfl | hj
        · rw [hxi] at hy; injection hy with hy; subst hy
          exact List.mem_cons_of_mem _ (haf k hk)
        · exact List.mem_cons_of_mem _ (hdn j hj y hy k hk)
      · rw [plus_get]
        by_cases hv : v ∈ wrR (D i)
        · rw [if_pos hv]
          refine (curN_last S D (p := (· ∈ i :: done)) (by simp) hv hilt fun j a b c hvj => ?_).symm
          rcases List.mem_cons.1 c with rfl | c
          · omega
          · have := (hsame v (p3 v hv) j b hvj).2 c; omega
        · rw [if_neg hv, hgt v]
          refine curN_congr S D fun j hj hvj => ⟨fun a => List.mem_cons_of_mem _ a, fun a => ?_⟩
          rcases List.mem_cons.1 a with rfl | a
          · exact absurd hvj hv
          · exact a
      · rw [plus_k, hkt k]
        constructor
        · rintro (h | h | ⟨j, a, b⟩)
          · exact .inr ⟨i, by simp, h⟩
          · exact .inl h
          · exact .inr ⟨j, List.mem_cons_of_mem _ a, b⟩
        · rintro (h | ⟨j, a, b⟩)
          · exact .inr (.inl h)
          · rcases List.mem_cons.1 a with rfl | a
            · exact .inl b
            · exact .inr (.inr ⟨j, a, b⟩)
      · simp only [St.plus, List.map_append, List.mem_append]
        have h3' := hst2 v
        constructor
        · rintro (h | h)
          · exact .inr ⟨i, by simp, h⟩
          · rcases h3'.1 h with h | ⟨j, a, b⟩
            · exact .inl h
            · exact .inr ⟨j, List.mem_cons_of_mem _ a, b⟩
        · rintro (h | ⟨j, a, b⟩)
          · exact .inr (h3'.2 (.inl h))
          · rcases List.mem_cons.1 a with rfl | a
            · exact .inl b
            · exact .inr (h3'.2 (.inr ⟨j, a, b⟩))
  refine key l.length [] S (by simp) List.nodup_nil (by simp) (by simp) (fun v => ?_) (fun k => by simp) (fun v => by simp)
  have : ∀ n, curN S D (· ∈ ([] : List Nat)) n v = S.get v := by
    intro n
    induction n with
    | zero => rfl
    | succ n ih => simp only [curN]; rw [if_neg (by rintro ⟨h, _⟩; cases h), ih]
  exact (this _).symm

/-! ### Equations for walks -/
def tK (P : Program) (G : Glob) (l : List AO) (acc : List Rc) (x : AO) (S : St) (K : St → Prop) : St → Prop := fun S' => twp P G l (acc ++ [rcd x S S']) S' K
theorem twp_cons (x : EOp) (af : List Nat) (l : List AO) (acc : List Rc) (S : St) (K : St → Prop) : twp P G (⟨none, x, af⟩ :: l) acc S K = rwp P G [⟨none, x, []⟩] S (tK P G l acc ⟨none, x, af⟩ S K) := Eq.trans rfl rfl
theorem twp_guard (p : Nat × Bool) (x : EOp) (af : List Nat) (l : List AO) (acc : List Rc) (S : St) (K : St → Prop) : twp P G (⟨some p, x, af⟩ :: l) acc S K = rwp P G [⟨some p, x, []⟩] S (tK P G l acc ⟨some p, x, af⟩ S K) := Eq.trans rfl rfl
theorem twp_nil (acc : List Rc) (S : St) (kp : List Nat) (Q : AEx → St → Prop) : twp P G [] acc S (endK kp Q) = (chkGo acc [] = true ∧ S.keeps kp = true ∧ Q .normal (S.norm kp)) := Eq.trans rfl rfl
theorem rwp_tK (l : List AO) (acc : List Rc) (x : AO) (S : St) (K : St → Prop) (S' : St) : rwp P G [] S' (tK P G l acc x S K) = twp P G l (acc ++ [rcd x S S']) S' K := Eq.trans rfl rfl
/-! What was noted on the way is not walked through again. -/
@[congr] theorem tK_congr (P : Program) (G : Glob) (l : List AO) (acc : List Rc) (x : AO) (S : St) (K : St → Prop) : tK P G l acc x S K = tK P G l acc x S K := rfl
@[congr] theorem twp_congr (P : Program) (G : Glob) (l : List AO) (acc : List Rc) (K : St → Prop) {S S' : St} (h : S = S') : twp P G l acc S K = twp P G l acc S' K := by rw [h]
@[congr] theorem chkGo_congr (acc : List Rc) (q : List (Rc × List Nat)) : chkGo acc q = chkGo acc q := rfl
attribute [push_cast] twp_cons twp_guard twp_nil rwp_tK
end Go.Eng

namespace Go.Eng
variable {P : Program} {G : Glob} {rs : List Rv} {As : List A} {mems ms : List Row} {hids hs : List (Nat × Row)} {f : FuncId}

theorem hid_get {row : Row} {g : Ghost} {w : World} {tm ar : Array Value} {agg : Bool} (h1 : VarR [] g w tm ar 0 (.al 0 agg)) (h2 : VarR [] g w tm ar 16000 (.hid row)) : VarR [] g w tm ar 0 (.val agg (vwRow 16000 0 (row.map .ow))) := by
  obtain ⟨e1, e2⟩ := h1
  obtain ⟨q1, q2⟩ := h2
  rw [show 16000 - 16000 = 0 from rfl, ← e1] at q1
  simp only [show 16000 - 16000 = 0 from rfl, ← e1] at q2
  have hc : (tm.getD 0 undef).cells = cellsV agg (tm.getD 0 undef) := by
    rcases e2 with ⟨rfl, arr, e⟩ | ⟨rfl, e⟩
    · rw [e]; rfl
    · rw [one_cells e]; rfl
  rw [hc] at q1 q2
  have hv : ValR [] g w 16000 0 agg (row.map .ow) (tm.getD 0 undef) := by
    refine ValR.of_cells ?_ (by simpa using q1) fun o c hcc => ?_
    · rcases e2 with ⟨rfl, arr, e⟩ | ⟨rfl, e⟩
      · exact .inl ⟨rfl, arr, e⟩
      · refine .inr ⟨rfl, ?_⟩
        have : (cellsV false (tm.getD 0 undef)).size = 1 := rfl
        simp; omega
    · simp only [List.getElem?_map, Option.map_eq_some_iff] at hcc
      obtain ⟨t, ht, rfl⟩ := hcc
      rw [Nat.zero_add]; exact q2 o t ht
  exact hv.view 0 0
/-- A function whose first argument is lent may begin with views of it. -/
theorem fn_al {agg : Bool} {row : Row} (h : FnD P G f (.val agg (vwRow 16000 0 (row.map .ow)) :: As) mems ((0, row) :: hids) rs ms hs) : FnD P G f (.al 0 agg :: As) mems ((0, row) :: hids) rs ms hs := by
  intro w g vs hgl hent
  refine h w g vs hgl ⟨by simpa using hent.len, hent.inj, hent.old, fun b k l hl => ?_, fun i a ha => ?_, hent.mems, hent.hids⟩
  · rcases hent.lab b k l hl with h | h
    · exact .inl h
    · right
      obtain ⟨r, o, p⟩ := l
      simp only [initS, argS, St.get, List.cons_append, getL] at h ⊢
      by_cases e : r = 0
      · subst e
        simp only [if_true] at h
        cases p <;> simp [hasL, ownAt] at h
      · rw [if_neg e] at h ⊢; exact h
  · cases i with
    | zero =>
      simp only [List.getElem?_cons_zero, Option.some.injEq] at ha; subst ha
      exact hid_get (hent.args 0 _ (by simp)) (hent.hids (0, row) (by simp))
    | succ i => exact hent.args (i + 1) a (by simpa using ha)

def lenT : T → Nat
  | .sl _ _ rows => rows.length
  | _ => 0
def hdsA : A → List Nat
  | .val _ row => row.map fun c => lenT c.tree
  | _ => []
theorem HdR.len {t : T} {v : Value} (h : HdR t v) : lenT t ≤ 281474976710656 := by
  cases t with
  | sl md sz rows => obtain ⟨_, _, _, _, h, _⟩ := h; exact h
  | _ => simp [lenT]
/-- What is handed over is not too long. -/
theorem fn_bd (h : (∀ n ∈ As.flatMap hdsA ++ hids.flatMap (fun q => q.2.map lenT), n ≤ 281474976710656) → FnD P G f As mems hids rs ms hs) : FnD P G f As mems hids rs ms hs := by
  intro w g vs hgl hent
  refine h (fun n hn => ?_) w g vs hgl hent
  rcases List.mem_append.1 hn with hn | hn
  · obtain ⟨a, ha, hn⟩ := List.mem_flatMap.1 hn
    obtain ⟨i, hi⟩ := List.getElem?_of_mem ha
    have hv := hent.args i a hi
    cases a with
    | val agg row =>
      simp only [hdsA, List.mem_map] at hn
      obtain ⟨c, hc, rfl⟩ := hn
      obtain ⟨j, hj⟩ := List.getElem?_of_mem hc
      exact ((ValR.cells hv).2 j c hj).hd.len
    | _ => simp [hdsA] at hn
  · obtain ⟨q, hq, hn⟩ := List.mem_flatMap.1 hn
    obtain ⟨t, ht, rfl⟩ := List.mem_map.1 hn
    obtain ⟨j, hj⟩ := List.getElem?_of_mem ht
    exact ((hent.hids q hq).2 j t hj).hd.len
theorem take_map_len {α β : Type} (f : α → β) (l : List α) : List.take l.length (l.map f) = l.map f := by
  rw [← List.length_map (f := f), List.take_length]
theorem dec_nneg {x : Int} (h : 0 ≤ x) : decide (x < 0) = false := decide_eq_false (by omega)
theorem nil_all (p : Row → Prop) : (∀ r, r ∈ ([] : List Row) → p r) = True := by simp
theorem one_all (x : Row) (p : Row → Prop) : (∀ r, r ∈ ([x] : List Row) → p r) = p x := by simp
theorem false_and' (p : Prop) : (False ∧ p) = False := by simp
theorem and_false' (p : Prop) : (p ∧ False) = False := by simp
theorem flat_all {α : Type} (f : α → Row) (h : ∀ a, (f a).all T.flat = true) (xs : List α) : ((xs.map f).all fun r => r.all T.flat) = true := by
  simp only [List.all_map, List.all_eq_true]
  intro x _
  exact h x
attribute [push_cast] take_map_len nil_all one_all false_and' and_false'
end Go.Eng

namespace Go.Eng
variable {P : Program} {G : Glob} {As : List A} {f : FuncId}

/-- Nothing is handed over for good. -/
def plainAs (As : List A) : Prop := ∀ a ∈ As, ∀ o, ownAt a o = false
theorem argS_mem {l : List A} {v i : Nat} {a : A} (h : getL (argS i l) v = a) (ha : a ≠ .any) : a ∈ l := by
  induction l generalizing i with
  | nil => exact absurd h.symm ha
  | cons x l ih =>
    simp only [argS, getL] at h
    split at h
    · subst h; simp
    · exact List.mem_cons_of_mem _ (ih h)
theorem plain_lab {g : Ghost} {w : World} {vs : List Value} (hp : plainAs As) (hm : As.all argB = true) (h : Ent g w As [] [] vs) {b k : Nat} {l : Lab} (hl : g b k = some l) : Sp l := by
  rcases h.lab b k l hl with h1 | h1
  · exact h1
  · exfalso
    obtain ⟨r, o, p⟩ := l
    simp only [initS, memS, hidS, List.append_nil, St.get] at h1
    generalize ha : getL (argS 0 As) r = a at h1
    by_cases e : a = .any
    · subst e; cases p <;> simp [hasL, ownAt] at h1
    · have hmem := argS_mem ha e
      have hb := List.all_eq_true.1 hm a hmem
      cases p with
      | nil => cases a <;> simp [hasL, argB] at h1 hb
      | cons x p =>
        have := hp a hmem o
        simp only [hasL] at h1
        rw [this] at h1; cases h1
theorem below_step {M : Nat → Nat → Prop} {w w' : World} (h : Go.RowKit.Below w.heap.size w w') : Step M w w' :=
  ⟨h.os, h.tape, h.output, h.size, fun b o hb => ⟨o, by rw [h.block b (lt_of_cells hb)]; exact hb, .inl rfl⟩⟩

/-- The cells of flat rows. -/
def cellV : T → Value
  | .lit v => v
  | _ => undef
def cellsR (rows : List Row) : List Value := rows.flatMap fun r => r.map cellV
theorem cellsR_get {rows : List Row} {sz : Nat} (hl : ∀ r ∈ rows, r.length = sz) {i o : Nat} {t : T} (h : get2 rows i o = some t) : (cellsR rows)[i * sz + o]? = some (cellV t) := by
  induction rows generalizing i with
  | nil => simp [get2] at h
  | cons r rows ih =>
    have hr : r.length = sz := hl r (by simp)
    cases i with
    | zero =>
      simp only [get2, List.getElem?_cons_zero, Option.bind_some] at h
      have ho := (List.getElem?_eq_some_iff.1 h).1
      simp only [cellsR, List.flatMap_cons, Nat.zero_mul, Nat.zero_add]
      rw [List.getElem?_append_left (by simp; omega), List.getElem?_map, h]; rfl
    | succ i =>
      have h' : get2 rows i o = some t := by simpa [get2] using h
      simp only [cellsR, List.flatMap_cons]
      rw [List.getElem?_append_right (by simp; rw [Nat.add_mul]; omega)]
      have e : (i + 1) * sz + o - (r.map cellV).length = i * sz + o := by
        simp only [List.length_map, hr]; rw [Nat.add_mul]; omega
      rw [e]
      exact ih (fun r hr => hl r (List.mem_cons_of_mem _ hr)) h'
theorem flat_get2 {rows : List Row} (hf : flatRows rows = true) {i o : Nat} {t : T} (h : get2 rows i o = some t) : ∃ v, t = .lit v := by
  unfold get2 at h
  cases hr : rows[i]? with
  | none => rw [hr] at h; simp at h
  | some r =>
    rw [hr] at h
    simp only [Option.bind_some] at h
    have h1 := List.all_eq_true.1 hf r (List.mem_of_getElem? hr)
    have h2 := List.all_eq_true.1 h1 t (List.mem_of_getElem? h)
    cases t with
    | lit v => exact ⟨v, rfl⟩
    | _ => simp [T.flat] at h2

/-- Labels of a new block. -/
def newG (sz n : Nat) (k : Nat) : Option Lab := if k < n * sz then some (30000, 0, [(k / sz, k % sz)]) else none
theorem newG_inj {sz n k k' : Nat} {l : Lab} (h : newG sz n k = some l) (h' : newG sz n k' = some l) : k = k' := by
  unfold newG at h h'
  split at h
  · split at h'
    · injection h with h; subst h
      simp only [Option.some.injEq, Prod.mk.injEq, List.cons.injEq, and_true, true_and] at h'
      rw [← Nat.div_add_mod' k sz, ← Nat.div_add_mod' k' sz, h'.1, h'.2]
    · cases h'
  · cases h
theorem newG_root {sz n k : Nat} {l : Lab} (h : newG sz n k = some l) : l.1 = 30000 := by
  unfold newG at h; split at h
  · injection h with h; subst h; rfl
  · cases h
/-- A row of its own reads as an owned tree. -/
theorem owns_tr {w : World} {base sz n : Nat} {e : TypeId} {v : Value} {rows : List Row} (h : w.ownsRow base e sz v n (cellsR rows)) (hn : n = rows.length) (hl : ∀ r ∈ rows, r.length = sz) (h0 : 0 < sz) (hf : flatRows rows = true)
    (h1 : ∀ u ∈ cellsR rows, u.oneCell' = true) (hlen : rows.length ≤ 281474976710656) :
    (v = .slice none 0 0 ∧ rows = []) ∨ ∃ b cap, base ≤ b ∧ b < w.heap.size ∧ (∀ g : Ghost, (∀ k, g b k = newG sz cap k) → TR g w 30000 0 [] (.sl .ow sz rows) v) := by
  subst hn
  obtain ⟨_, ⟨rfl, h2⟩ | ⟨b, cap, cur, rfl, hb, hh, hle, hm, hs, ht⟩⟩ := h
  · exact .inl ⟨rfl, List.length_eq_zero_iff.1 h2⟩
  · right
    refine ⟨b, cap, hb, lt_of_cells hh, fun g hg => ?_⟩
    refine .own [] .ow rows b 0 cap sz cur e (by simp) hh hl (by simp [hs]) hle h0 hlen (fun i o hi ho => ?_) fun i o t hgt => ?_
    · rw [hg]
      unfold newG
      simp only [bnd_ow] at hi
      have hlt := idx_lt hi ho
      rw [Nat.zero_add, if_pos hlt]
      have e1 : (i * sz + o) / sz = i := by rw [Nat.mul_comm, Nat.mul_add_div h0, Nat.div_eq_of_lt ho]; omega
      have e2 : (i * sz + o) % sz = o := by rw [Nat.mul_comm, Nat.mul_add_mod]; exact Nat.mod_eq_of_lt ho
      rw [e1, e2]; rfl
    · obtain ⟨u, rfl⟩ := flat_get2 hf hgt
      have hc := cellsR_get hl hgt
      obtain ⟨hi, ho⟩ := get2_lt hgt hl
      have hlt := idx_lt hi ho
      have hu : cur.getD (0 + i * sz + o) undef = u := by
        rw [Array.getD_eq_getD_getElem?, Nat.zero_add]
        have : cur.toList[i * sz + o]? = some u := by
          rw [← ht] at hc
          rw [List.getElem?_take, if_pos hlt] at hc
          exact hc
        rw [← Array.getElem?_toList, this]; rfl
      rw [hu]
      exact .lit _ _ (h1 u (List.mem_of_getElem? hc))

/-- A function that makes a flat slice of its own, and else leaves all as it was. -/
theorem fnd_fresh {rows : List Row} {sz : Nat} {ty : TypeId} (h0 : 0 < sz) (hl : ∀ r ∈ rows, r.length = sz) (hf : flatRows rows = true) (h1 : ∀ u ∈ cellsR rows, u.oneCell' = true) (hlen : rows.length ≤ 281474976710656)
    (hp : plainAs As) (hm : As.all argB = true)
    (H : ∀ w g vs, glR G g w → Ent g w As [] [] vs → Calls P f vs.toArray w fun e w' => ∃ v, e = .returned v ∧ w'.ownsRow w.heap.size ty sz v rows.length (cellsR rows) ∧ Go.RowKit.Below w.heap.size w w') :
    FnD P G f As [] [] [.v false [.ow (.sl .ow sz rows)]] [] [] := by
  intro w g vs hgl hent
  refine (H w g vs hgl hent).mono fun e w' ⟨v, he, hown, hbel⟩ => ?_
  have hsp : ∀ b k l, g b k = some l → Sp l := fun b k l hl => plain_lab hp hm hent hl
  have hst : Step (Wr g) w w' := below_step hbel
  rcases owns_tr hown rfl hl h0 hf h1 hlen with ⟨rfl, rfl⟩ | ⟨b, cap, hb, hbs, htr⟩
  · refine ⟨_, g, he, ⟨hent.inj, fun b k l hl => Nat.lt_of_lt_of_le (hent.old b k l hl) hst.size, hst, fun b k _ hn => hn, fun b k l _ => Iff.rfl, fun b k r o h3 h4 h5 => h5, ?_, fun j row hj => by simp at hj, fun q hq => by cases hq⟩⟩
    exact .nil _ _ _ _ _ (by simp) (fun _ => rfl)
  · obtain ⟨g', hg'⟩ : ∃ g' : Ghost, g' = fun b' k => if b' < w.heap.size then g b' k else if b' = b then newG sz cap k else none := ⟨_, rfl⟩
    have hold : ∀ b' k, b' < w.heap.size → g' b' k = g b' k := fun b' k h => by rw [hg']; simp only; rw [if_pos h]
    have hnew : ∀ b' k l, ¬ b' < w.heap.size → g' b' k = some l → b' = b ∧ newG sz cap k = some l := fun b' k l h h2 => by
      rw [hg'] at h2; simp only at h2; rw [if_neg h] at h2
      split at h2
      · exact ⟨by assumption, h2⟩
      · cases h2
    have hwas : ∀ b' k l, g' b' k = some l → Sp l → g b' k = some l := fun b' k l h2 hs => by
      by_cases h : b' < w.heap.size
      · rw [hold _ _ h] at h2; exact h2
      · obtain ⟨_, h3⟩ := hnew b' k l h h2
        have := newG_root h3
        rcases hs with hs | hs <;> omega
    refine ⟨v, g', he, ⟨fun b1 k1 b2 k2 l h2 h3 => ?_, fun b1 k l h2 => ?_, hst, fun b1 k hlt hn => by rw [hold _ _ hlt]; exact hn, fun b1 k l hs => ⟨fun h2 => by rw [hold _ _ (hent.old _ _ _ h2)]; exact h2, fun h2 => hwas _ _ _ h2 hs⟩,
      fun b1 k r o h3 h4 h5 => by rw [hold _ _ (hent.old _ _ _ h5)]; exact h5, ?_, fun j row hj => by simp at hj, fun q hq => by cases hq⟩⟩
    · by_cases e1 : b1 < w.heap.size
      · rw [hold _ _ e1] at h2
        exact hent.inj _ _ _ _ l h2 (hwas _ _ _ h3 (hsp _ _ _ h2))
      · obtain ⟨q1, q2⟩ := hnew _ _ _ e1 h2
        by_cases e2 : b2 < w.heap.size
        · rw [hold _ _ e2] at h3
          have := hsp _ _ _ h3
          have h4 := newG_root q2
          rcases this with hs | hs <;> omega
        · obtain ⟨q3, q4⟩ := hnew _ _ _ e2 h3
          exact ⟨q1.trans q3.symm, newG_inj q2 q4⟩
    · by_cases e1 : b1 < w.heap.size
      · exact Nat.lt_of_lt_of_le e1 hst.size
      · rw [(hnew _ _ _ e1 h2).1]; exact hbs
    · exact htr g' fun k => by rw [hg']; simp only; rw [if_neg (by omega)]; simp
/-- A function that hands a flat slice back: in its own memory, or in new. -/
theorem fnd_keep {rows : List Row} {sz : Nat} {ty : TypeId} (h0 : 0 < sz) (hl : ∀ r ∈ rows, r.length = sz) (hf : flatRows rows = true) (h1 : ∀ u ∈ cellsR rows, u.oneCell' = true) (hlen : rows.length ≤ 281474976710656)
    (hp : plainAs As) (hm : As.all argB = true)
    (H : ∀ w g vs v0, glR G g w → Ent g w (.val false [.ow (.sl .ow sz rows)] :: As) [] [] vs → vs.getD 0 undef = v0 → TR g w 0 0 [] (.sl .ow sz rows) v0 → Calls P f vs.toArray w fun e w' => ∃ v, e = .returned v ∧
      (v = v0 ∨ w'.ownsRow w.heap.size ty sz v rows.length (cellsR rows)) ∧ Go.RowKit.Below w.heap.size w w') :
    FnD P G f (.val false [.ow (.sl .ow sz rows)] :: As) [] [] [.v false [.ow (.sl .ow sz rows)]] [] [] := by
  intro w g vs hgl hent
  have hv0 : TR g w 0 0 [] (.sl .ow sz rows) (vs.getD 0 undef) := by
    have := hent.args 0 (.val false [.ow (.sl .ow sz rows)]) rfl
    have e : vs.toArray.getD 0 undef = vs.getD 0 undef := by simp [Array.getD_eq_getD_getElem?, List.getD_eq_getElem?_getD]
    rw [← e]; exact this
  refine (H w g vs _ hgl hent rfl hv0).mono fun e w' ⟨v, he, hown, hbel⟩ => ?_
  have hlab : ∀ b k l, g b k = some l → Sp l ∨ (l.1 = 0 ∧ l.2.2 ≠ []) := fun b k l hl => by
    rcases hent.lab b k l hl with h2 | h2
    · exact .inl h2
    · obtain ⟨r, o, p⟩ := l
      by_cases e : r = 0
      · subst e
        right
        refine ⟨rfl, ?_⟩
        rintro rfl
        simp [initS, argS, St.get, getL, hasL] at h2
      · exfalso
        have hg : getL (argS 0 (.val false [.ow (.sl .ow sz rows)] :: As)) r = getL (argS 1 As) r := by
          simp only [argS, getL]; rw [if_neg e]
        simp only [initS, memS, hidS, List.append_nil, St.get] at h2
        rw [hg] at h2
        generalize ha : getL (argS 1 As) r = a at h2
        by_cases e : a = .any
        · subst e; cases p <;> simp [hasL, ownAt] at h2
        · have hmem := argS_mem ha e
          have hb := List.all_eq_true.1 hm a hmem
          cases p with
          | nil => cases a <;> simp [hasL, argB] at h2 hb
          | cons x p =>
            have := hp a hmem o
            simp only [hasL] at h2
            rw [this] at h2; cases h2
  have hst : Step (Wr g) w w' := below_step hbel
  -- labels that are taken over
  obtain ⟨mv, hmv⟩ : ∃ mv : Lab → Option Lab, mv = fun l => if l.1 = 0 then some (30000, l.2) else some l := ⟨_, rfl⟩
  have mv_inj : ∀ l l' x, (Sp l ∨ (l.1 = 0 ∧ l.2.2 ≠ [])) → (Sp l' ∨ (l'.1 = 0 ∧ l'.2.2 ≠ [])) → mv l = some x → mv l' = some x → l = l' := fun l l' x h2 h3 h4 h5 => by
    obtain ⟨r, q⟩ := l; obtain ⟨r', q'⟩ := l'
    rw [hmv] at h4 h5
    simp only [Sp] at h2 h3 h4 h5
    split at h4
    · split at h5
      · injection h4 with h4; injection h5 with h5; subst h4
        injection h5 with _ h5; subst h5
        simp_all
      · injection h4 with h4; injection h5 with h5; subst h4; injection h5 with h5 _; omega
    · split at h5
      · injection h4 with h4; injection h5 with h5; subst h5; injection h4 with h4 _; omega
      · injection h4 with h4; injection h5 with h5; rw [h4, h5]
  have mv_sp : ∀ l x, (Sp l ∨ (l.1 = 0 ∧ l.2.2 ≠ [])) → mv l = some x → Sp x → l = x := fun l x h2 h3 h4 => by
    obtain ⟨r, q⟩ := l
    rw [hmv] at h3
    simp only [Sp] at h2 h3 h4
    split at h3
    · injection h3 with h3; subst h3; simp at h4
    · injection h3
  have sp_mv : ∀ l, Sp l → mv l = some l := fun l h2 => by
    rw [hmv]; simp only; rw [if_neg]; rcases h2 with h2 | h2 <;> omega
  have hcase : (v = vs.getD 0 undef) ∨ (v = .slice none 0 0 ∧ rows = []) ∨ ∃ b cap, w.heap.size ≤ b ∧ b < w'.heap.size ∧ (∀ g : Ghost, (∀ k, g b k = newG sz cap k) → TR g w' 30000 0 [] (.sl .ow sz rows) v) := by
    rcases hown with h2 | h2
    · exact .inl h2
    · exact .inr (owns_tr h2 rfl hl h0 hf h1 hlen)
  rcases hcase with rfl | ⟨rfl, rfl⟩ | ⟨b, cap, hb, hbs, htr⟩
  · refine ⟨_, fun b k => (g b k).bind mv, he, ⟨fun b1 k1 b2 k2 l h2 h3 => ?_, fun b1 k l h2 => ?_, hst, fun b1 k hlt hn => by rw [hn]; rfl, fun b1 k l hs => ⟨fun h2 => by rw [h2]; exact sp_mv l hs, fun h2 => ?_⟩,
      fun b1 k r o h3 h4 h5 => ?_, ?_, fun j row hj => by simp at hj, fun q hq => by cases hq⟩⟩
    · simp only [Option.bind_eq_some_iff] at h2 h3
      obtain ⟨l1, q1, q2⟩ := h2; obtain ⟨l2, q3, q4⟩ := h3
      have := mv_inj _ _ _ (hlab _ _ _ q1) (hlab _ _ _ q3) q2 q4
      subst this
      exact hent.inj _ _ _ _ _ q1 q3
    · simp only [Option.bind_eq_some_iff] at h2
      obtain ⟨l1, q1, _⟩ := h2
      exact Nat.lt_of_lt_of_le (hent.old _ _ _ q1) hst.size
    · simp only [Option.bind_eq_some_iff] at h2
      obtain ⟨l1, q1, q2⟩ := h2
      have := mv_sp _ _ (hlab _ _ _ q1) q2 hs
      subst this; exact q1
    · exfalso
      rcases hlab _ _ _ h5 with hs | ⟨hs, _⟩
      · rcases hs with hs | hs <;> simp only at hs <;> omega
      · simp only at hs; omega
    · exact hv0.map (M := fun _ _ => False) (below_step hbel) (fun b k _ hn => ⟨fun h => h, by rw [hn]; rfl⟩) [] fun b k q _ hq hg => ⟨fun h => h, by rw [hg]; simp [hmv]⟩
  · -- nothing is left
    refine ⟨_, fun b k => (g b k).bind mv, he, ⟨fun b1 k1 b2 k2 l h2 h3 => ?_, fun b1 k l h2 => ?_, hst, fun b1 k hlt hn => by rw [hn]; rfl, fun b1 k l hs => ⟨fun h2 => by rw [h2]; exact sp_mv l hs, fun h2 => ?_⟩,
      fun b1 k r o h3 h4 h5 => ?_, .nil _ _ _ _ _ (by simp) (fun _ => rfl), fun j row hj => by simp at hj, fun q hq => by cases hq⟩⟩
    · simp only [Option.bind_eq_some_iff] at h2 h3
      obtain ⟨l1, q1, q2⟩ := h2; obtain ⟨l2, q3, q4⟩ := h3
      have := mv_inj _ _ _ (hlab _ _ _ q1) (hlab _ _ _ q3) q2 q4
      subst this
      exact hent.inj _ _ _ _ _ q1 q3
    · simp only [Option.bind_eq_some_iff] at h2
      obtain ⟨l1, q1, _⟩ := h2
      exact Nat.lt_of_lt_of_le (hent.old _ _ _ q1) hst.size
    · simp only [Option.bind_eq_some_iff] at h2
      obtain ⟨l1, q1, q2⟩ := h2
      have := mv_sp _ _ (hlab _ _ _ q1) q2 hs
      subst this; exact q1
    · exfalso
      rcases hlab _ _ _ h5 with hs | ⟨hs, _⟩
      · rcases hs with hs | hs <;> simp only at hs <;> omega
      · simp only at hs; omega
  · obtain ⟨sp, hsp⟩ : ∃ sp : Lab → Option Lab, sp = fun l => if l.1 = 0 then none else some l := ⟨_, rfl⟩
    have sp_of : ∀ l x, (Sp l ∨ (l.1 = 0 ∧ l.2.2 ≠ [])) → sp l = some x → Sp x ∧ x = l := fun l x h2 h3 => by
      rw [hsp] at h3; simp only at h3
      split at h3
      · cases h3
      · injection h3 with h3; subst h3
        rcases h2 with h2 | h2
        · exact ⟨h2, rfl⟩
        · exact absurd h2.1 (by assumption)
    have sp_sp : ∀ l, Sp l → sp l = some l := fun l h2 => by
      rw [hsp]; simp only; rw [if_neg]; rcases h2 with h2 | h2 <;> omega
    obtain ⟨g', hg'⟩ : ∃ g' : Ghost, g' = fun b' k => if b' < w.heap.size then (g b' k).bind sp else if b' = b then newG sz cap k else none := ⟨_, rfl⟩
    have hold : ∀ b' k, b' < w.heap.size → g' b' k = (g b' k).bind sp := fun b' k h => by rw [hg']; simp only; rw [if_pos h]
    have hnew : ∀ b' k l, ¬ b' < w.heap.size → g' b' k = some l → b' = b ∧ newG sz cap k = some l := fun b' k l h h2 => by
      rw [hg'] at h2; simp only at h2; rw [if_neg h] at h2
      split at h2
      · exact ⟨by assumption, h2⟩
      · cases h2
    have hwas : ∀ b' k l, b' < w.heap.size → g' b' k = some l → Sp l ∧ g b' k = some l := fun b' k l h h2 => by
      rw [hold _ _ h] at h2
      simp only [Option.bind_eq_some_iff] at h2
      obtain ⟨l1, q1, q2⟩ := h2
      obtain ⟨q3, rfl⟩ := sp_of _ _ (hlab _ _ _ q1) q2
      exact ⟨q3, q1⟩
    have hnsp : ∀ k l, newG sz cap k = some l → ¬ Sp l := fun k l h2 hs => by
      have := newG_root h2
      rcases hs with hs | hs <;> omega
    refine ⟨v, g', he, ⟨fun b1 k1 b2 k2 l h2 h3 => ?_, fun b1 k l h2 => ?_, hst, fun b1 k hlt hn => by rw [hold _ _ hlt, hn]; rfl, fun b1 k l hs => ⟨fun h2 => by rw [hold _ _ (hent.old _ _ _ h2), h2]; exact sp_sp l hs, fun h2 => ?_⟩,
      fun b1 k r o h3 h4 h5 => ?_, ?_, fun j row hj => by simp at hj, fun q hq => by cases hq⟩⟩
    · by_cases e1 : b1 < w.heap.size
      · obtain ⟨q1, q2⟩ := hwas _ _ _ e1 h2
        by_cases e2 : b2 < w.heap.size
        · exact hent.inj _ _ _ _ l q2 (hwas _ _ _ e2 h3).2
        · exact absurd q1 (hnsp _ _ (hnew _ _ _ e2 h3).2)
      · obtain ⟨q1, q2⟩ := hnew _ _ _ e1 h2
        by_cases e2 : b2 < w.heap.size
        · exact absurd (hwas _ _ _ e2 h3).1 (hnsp _ _ q2)
        · obtain ⟨q3, q4⟩ := hnew _ _ _ e2 h3
          exact ⟨q1.trans q3.symm, newG_inj q2 q4⟩
    · by_cases e1 : b1 < w.heap.size
      · exact Nat.lt_of_lt_of_le e1 hst.size
      · rw [(hnew _ _ _ e1 h2).1]; exact hbs
    · by_cases e1 : b1 < w.heap.size
      · exact (hwas _ _ _ e1 h2).2
      · exact absurd hs (hnsp _ _ (hnew _ _ _ e1 h2).2)
    · exfalso
      rcases hlab _ _ _ h5 with hs | ⟨hs, _⟩
      · rcases hs with hs | hs <;> simp only at hs <;> omega
      · simp only at hs; omega
    · exact htr g' fun k => by rw [hg']; simp only; rw [if_neg (by omega)]; simp
end Go.Eng

namespace Go.Eng

inductive CT where
  | int
  | u8
  | bool
  | str
  | sl (r : List CT)
mutual
def tyT : CT → T → Prop
  | .int, t => ∃ n, t = .lit (.int .i64 n)
  | .u8, t => ∃ n, t = .lit (.int .u8 n) ∧ 0 ≤ n ∧ n < 256
  | .bool, t => ∃ b, t = .lit (.bool b)
  | .str, t => ∃ s, t = .lit (.string s)
  | .sl r, t => ∃ rows, t = .sl .ow r.length rows ∧ ∀ row ∈ rows, tyR r row
def tyR : List CT → Row → Prop
  | [], row => row = []
  | c :: l, row => ∃ t row', row = t :: row' ∧ tyT c t ∧ tyR l row'
end
mutual
def bkT : T → Nat
  | .lit (.string s) => s.size + 1
  | .lit _ => 1
  | .bad => 1
  | .sl _ _ rows => bkRows rows + 1
def bkRows : List (List T) → Nat
  | [] => 0
  | r :: l => bkRow r + bkRows l
def bkRow : List T → Nat
  | [] => 0
  | t :: l => bkT t + bkRow l
end
theorem tyR_len : ∀ {r : List CT} {row : Row}, tyR r row → row.length = r.length := by
  intro r
  induction r with
  | nil => intro row h; simp only [tyR] at h; subst h; rfl
  | cons c l ih => intro row h; simp only [tyR] at h; obtain ⟨t, row', rfl, _, h2⟩ := h; simp [ih h2]
theorem tyR_app {r s : List CT} {a b : Row} (h1 : tyR r a) (h2 : tyR s b) : tyR (r ++ s) (a ++ b) := by
  induction r generalizing a with
  | nil => simp only [tyR] at h1; subst h1; simpa using h2
  | cons c l ih =>
    simp only [tyR] at h1
    obtain ⟨t, a', rfl, q1, q2⟩ := h1
    simp only [List.cons_append, tyR]
    exact ⟨t, a' ++ b, rfl, q1, ih q2⟩
theorem bkRow_app (a b : Row) : bkRow (a ++ b) = bkRow a + bkRow b := by
  induction a with
  | nil => simp [bkRow]
  | cons t l ih => simp only [List.cons_append, bkRow, ih]; omega

def ctFs (P : Program) (c : TypeId → Option (List CT)) : List Field → Nat → Option (List CT)
  | [], _ => some []
  | f :: l, off => match c f.type with
    | some r => if f.offset == off && P.cellsOf f.type == r.length then (ctFs P c l (off + r.length)).map (r ++ ·) else none
    | none => none
def ctOf (P : Program) : Nat → TypeId → Option (List CT)
  | 0, _ => none
  | n + 1, t => match P.underlying t with
    | some .bool => some [.bool]
    | some (.int .i64) => some [.int]
    | some (.int .u8) => some [.u8]
    | some .string => some [.str]
    | some (.slice e) => match ctOf P n e with
      | some r => if P.cellsOf e == r.length && decide (0 < r.length) then some [.sl r] else none
      | none => none
    | some (.struct fs) => match ctFs P (ctOf P n) fs.toList 0 with
      | some r => if P.cellsOf t == r.length then some r else none
      | none => none
    | _ => none

/-- How much a reading bears. -/
structure Bk {H : Type} (B : DataW H → Nat) (BA : List (DataW H) → Nat) : Prop where
  str : ∀ l, l.length + 1 ≤ B (.lit (.string l))
  lit : ∀ l, 1 ≤ B (.lit l)
  nil : 1 ≤ B .nil
  slice : ∀ e s, BA e + 1 ≤ B (.slice e s)
  agg : ∀ p, BA p ≤ B (.agg p)
  cons : ∀ d l, BA (d :: l) = B d + BA l

theorem addr_add (a : Addr) (i j : Nat) : (a.add i).add j = a.add (i + j) := by
  unfold Addr.add
  by_cases hi : i = 0
  · subst hi; simp
  · by_cases hj : j = 0
    · subst hj; simp [hi]
    · simp [hi, hj, Nat.add_assoc]
theorem plain_add (b off n : Nat) : (⟨b, off, none⟩ : Addr).add n = ⟨b, off + n, none⟩ := by
  unfold Addr.add
  by_cases h : n = 0
  · subst h; simp
  · simp [h]
abbrev gNone : Ghost := fun _ _ => none
section
variable {H : Type} {enc : TypeId × Value → H} {P : Program} {w : World} {spare : Nat → Bool} {held : Bool} {B : DataW H → Nat} {BA : List (DataW H) → Nat}

/-- Cells that read as a row. -/
def RowIs (w : World) (r : List CT) (cs : List Value) (m : Nat) : Prop := ∃ row, tyR r row ∧ cs.length = row.length ∧ (∀ (i : Nat) c v, row[i]? = some c → cs[i]? = some v → ShR LF gNone w c v) ∧ bkRow row ≤ m
theorem RowIs.one {c : CT} {t : T} {v : Value} {m : Nat} (h1 : tyT c t) (h2 : ShR LF gNone w t v) (h3 : bkT t ≤ m) : RowIs w [c] [v] m :=
  ⟨[t], by simp only [tyR]; exact ⟨t, [], rfl, h1, rfl⟩, rfl, fun i c v hc hv => by
    cases i with
    | zero => simp at hc hv; subst hc; subst hv; exact h2
    | succ i => simp at hc, by simp [bkRow]; exact h3⟩
theorem choose_list {α : Type} {Q : Nat → α → Prop} : ∀ (n : Nat), (∀ i, i < n → ∃ x, Q i x) → ∃ l : List α, l.length = n ∧ ∀ (i : Nat) x, l[i]? = some x → Q i x := by
  intro n
  induction n with
  | zero => intro _; exact ⟨[], rfl, fun i x h => by simp at h⟩
  | succ n ih =>
    intro h
    obtain ⟨l, h1, h2⟩ := ih fun i hi => h i (by omega)
    obtain ⟨x, hx⟩ := h n (by omega)
    refine ⟨l ++ [x], by simp [h1], fun i y hy => ?_⟩
    by_cases hi : i < l.length
    · rw [List.getElem?_append_left hi] at hy; exact h2 i y hy
    · have : i = l.length := by
        have := (List.getElem?_eq_some_iff.1 hy).1
        simp at this; omega
      subst this
      simp at hy; subst hy; rw [h1]; exact hx
theorem bkRows_le {rows : List Row} {ds : List (DataW H)} (hB : Bk B BA) (hl : rows.length = ds.length) (h : ∀ (i : Nat) r d, rows[i]? = some r → ds[i]? = some d → bkRow r ≤ B d) : bkRows rows ≤ BA ds := by
  induction rows generalizing ds with
  | nil => simp [bkRows]
  | cons r l ih =>
    cases ds with
    | nil => simp at hl
    | cons d ds =>
      rw [hB.cons]
      simp only [bkRows]
      have := h 0 r d rfl rfl
      have := ih (ds := ds) (by simpa using hl) fun i r' d' h1 h2 => h (i + 1) r' d' (by simpa using h1) (by simpa using h2)
      omega
theorem BA_get (hB : Bk B BA) {l : List (DataW H)} {i : Nat} {d : DataW H} (h : l[i]? = some d) : B d ≤ BA l := by
  induction l generalizing i with
  | nil => simp at h
  | cons x l ih =>
    rw [hB.cons]
    cases i with
    | zero => simp at h; subst h; omega
    | succ i => have := ih (i := i) (by simpa using h); omega
theorem fields_row (hB : Bk B BA) {c : TypeId → Option (List CT)} {n : Nat} (IH : ∀ t cs x r, DataW.trod enc P w 0 spare held n t cs = some x → c t = some r → B x.1 ≤ 1048576 → RowIs w r cs (B x.1)) (cs : List Value) :
    ∀ (fs : List Field) (off : Nat) (xs : List (DataW H × List MemPlace)) (r : List CT), ctFs P c fs off = some r → xs.length = fs.length → (∀ (i : Nat) (f : Field), fs[i]? = some f → DataW.trod enc P w 0 spare held n f.type ((cs.drop f.offset).take (P.cellsOf f.type)) = xs[i]?) →
      BA (xs.map (·.1)) ≤ 1048576 → off + r.length ≤ cs.length → RowIs w r ((cs.drop off).take r.length) (BA (xs.map (·.1))) := by
  intro fs
  induction fs with
  | nil =>
    intro off xs r hr hl _ _ _
    simp only [ctFs, Option.some.injEq] at hr; subst hr
    exact ⟨[], by simp [tyR], by simp, fun i c v h => by simp at h, by simp [bkRow]⟩
  | cons f l ih =>
    intro off xs r hr hl hx hb hle
    simp only [ctFs] at hr
    split at hr
    · rename_i r1 h1
      split at hr
      · rename_i h2
        simp only [Bool.and_eq_true, beq_iff_eq] at h2
        simp only [Option.map_eq_some_iff] at hr
        obtain ⟨r2, h3, rfl⟩ := hr
        cases xs with
        | nil => simp at hl
        | cons x xs =>
          have hx0 := hx 0 f rfl
          simp only [List.getElem?_cons_zero] at hx0
          rw [List.map_cons, hB.cons] at hb ⊢
          simp only [List.length_append] at hle
          obtain ⟨row1, q1, q2, q3, q4⟩ := IH _ _ x r1 hx0 h1 (by omega)
          obtain ⟨row2, p1, p2, p3, p4⟩ := ih (off + r1.length) xs r2 h3 (by simpa using hl) (fun i g hg => by have := hx (i + 1) g (by simpa using hg); simpa using this) (by omega) (by omega)
          rw [h2.1, h2.2] at q2 q3
          have e : (cs.drop off).take (r1 ++ r2).length = (cs.drop off).take r1.length ++ (cs.drop (off + r1.length)).take r2.length := by
            rw [List.length_append, List.take_add, List.drop_drop]
          rw [e]
          refine ⟨row1 ++ row2, tyR_app q1 p1, by simp only [List.length_append, q2, p2], fun i c v hc hv => ?_, by rw [bkRow_app]; omega⟩
          by_cases hi : i < row1.length
          · rw [List.getElem?_append_left hi] at hc
            rw [List.getElem?_append_left (by omega)] at hv
            exact q3 i c v hc hv
          · rw [List.getElem?_append_right (by omega)] at hc
            rw [List.getElem?_append_right (by omega), q2] at hv
            exact p3 _ c v hc hv
      · cases hr
    · cases hr
theorem trod_row (hB : Bk B BA) : ∀ (fuel n : Nat) (t : TypeId) (cs : List Value) (x : DataW H × List MemPlace) (r : List CT), DataW.trod enc P w 0 spare held fuel t cs = some x → ctOf P n t = some r → B x.1 ≤ 1048576 → RowIs w r cs (B x.1) := by
  intro fuel
  induction fuel with
  | zero => intro n t cs x r h; simp [DataW.trod] at h
  | succ fuel ih =>
    intro n t cs x r h hc hb
    cases n with
    | zero => simp [ctOf] at hc
    | succ n =>
      simp only [ctOf] at hc
      split at hc
      · rename_i hu
        injection hc with hc; subst hc
        obtain ⟨b, rfl, rfl⟩ := DataW.trod_bool hu h
        exact .one ⟨b, rfl⟩ (.lit _ rfl) (by simp only [bkT]; exact hB.lit _)
      · rename_i hu
        injection hc with hc; subst hc
        obtain ⟨m, rfl, rfl, _⟩ := DataW.trod_int hu h
        exact .one ⟨m, rfl⟩ (.lit _ rfl) (by simp only [bkT]; exact hB.lit _)
      · rename_i hu
        injection hc with hc; subst hc
        obtain ⟨m, rfl, rfl, hw⟩ := DataW.trod_int hu h
        have hm : 0 ≤ m ∧ m ≤ 255 := by simpa [Lit.wf, IntKind.min, IntKind.max, IntKind.signed, IntKind.bits] using hw
        exact .one ⟨m, rfl, hm.1, by omega⟩ (.lit _ rfl) (by simp only [bkT]; exact hB.lit _)
      · rename_i hu
        injection hc with hc; subst hc
        obtain ⟨s, rfl, rfl, _⟩ := DataW.trod_string hu h
        refine .one ⟨s, rfl⟩ (.lit _ rfl) ?_
        simp only [bkT]
        have := hB.str s.data.toList
        have e : s.data.toList.length = s.size := by rw [Array.length_toList]; rfl
        omega
      · rename_i e hu
        split at hc
        · rename_i re hre
          split at hc
          · rename_i hsz
            simp only [Bool.and_eq_true, beq_iff_eq, decide_eq_true_eq] at hsz
            injection hc with hc; subst hc
            rcases DataW.trod_slice hu h with ⟨rfl, rfl⟩ | ⟨a, len, cap, elems, rest, m, hm, rfl, rfl, hb0, hle, hcm, hlen, hel, _, _⟩
            · refine .one ⟨[], rfl, by simp⟩ (.emp _ _ _ _) ?_
              simp only [bkT, bkRows]; exact hB.nil
            · injection hm with hm; subst hm
              have hbs := hB.slice (elems.map (·.1)) (rest.map (·.1))
              have hbl : BA (elems.map (·.1)) ≤ 1048576 := by simp only at hb; omega
              have hrow : ∀ i, i < len → ∃ row : Row, tyR re row ∧ (∃ d, (elems.map (·.1))[i]? = some d ∧ bkRow row ≤ B d) ∧ ∀ (j : Nat) c, row[j]? = some c → ∃ v, w.cell? (a.add (i * re.length + j)) = some v ∧ ShR LF gNone w c v := fun i hi => by
                have h1 := hel i hi
                have hi2 : i < elems.length := by omega
                rw [List.getElem?_eq_getElem hi2, Option.bind_eq_some_iff] at h1
                obtain ⟨ci, h2, h3⟩ := h1
                have hd : (elems.map (·.1))[i]? = some elems[i].1 := by rw [List.getElem?_map, List.getElem?_eq_getElem hi2]; rfl
                obtain ⟨row, q1, q2, q3, q4⟩ := ih n e ci elems[i] re h3 hre (Nat.le_trans (BA_get hB hd) hbl)
                obtain ⟨k1, k2, k3⟩ := World.cells?_some h2
                refine ⟨row, q1, ⟨_, hd, q4⟩, fun j c hj => ?_⟩
                have hjl := (List.getElem?_eq_some_iff.1 hj).1
                have hcj : ci[j]? = some (ci[j]'(by omega)) := List.getElem?_eq_getElem (by omega)
                refine ⟨_, ?_, q3 j c _ hj hcj⟩
                have := k3 j (by omega)
                rw [hsz.1] at this
                rw [← addr_add, this]; exact hcj
              obtain ⟨rows, l1, l2⟩ := choose_list len hrow
              have hty : ∀ row ∈ rows, tyR re row := fun row hr => by
                obtain ⟨i, hi⟩ := List.getElem?_of_mem hr
                exact (l2 i row hi).1
              have hbk : bkRows rows ≤ BA (elems.map (·.1)) := bkRows_le hB (by simp [l1, hlen]) fun i r d hr hd => by
                obtain ⟨_, ⟨d', q1, q2⟩, _⟩ := l2 i r hr
                rw [hd] at q1; injection q1 with q1; subst q1; exact q2
              have hlt : len ≤ 1048576 := by
                have hgen : ∀ rs : List Row, (∀ r ∈ rs, tyR re r) → rs.length ≤ bkRows rs := by
                  intro rs
                  induction rs with
                  | nil => intro _; simp
                  | cons r l ih2 =>
                    intro hh
                    have := ih2 fun r hr => hh r (by simp [hr])
                    have hr1 := tyR_len (hh r (by simp))
                    have : 1 ≤ bkRow r := by
                      cases r with
                      | nil => simp at hr1; omega
                      | cons t l =>
                        have : 1 ≤ bkT t := by
                          cases t with
                          | lit v => cases v <;> simp [bkT]
                          | bad => simp [bkT]
                          | sl _ _ _ => simp [bkT]
                        simp only [bkRow]; omega
                    simp only [List.length_cons, bkRows]; omega
                have := hgen rows hty
                omega
              refine .one ⟨rows, rfl, hty⟩ ?_ (by simp only [bkT]; omega)
              by_cases h0 : len = 0
              · subst h0
                obtain rfl := List.length_eq_zero_iff.1 l1
                exact .emp _ _ _ _
              · have hcell : ∀ i o c, get2 rows i o = some c → ∃ v, w.cell? (a.add (i * re.length + o)) = some v ∧ ShR LF gNone w c v := fun i o c hg => by
                  unfold get2 at hg
                  cases hr : rows[i]? with
                  | none => rw [hr] at hg; simp at hg
                  | some row => rw [hr] at hg; exact (l2 i row hr).2.2 o c hg
                have hlr : ∀ r ∈ rows, r.length = re.length := fun r hr => tyR_len (hty r hr)
                obtain ⟨c0, hc0⟩ := get2_mk hlr (i := 0) (o := 0) (by omega) hsz.2
                obtain ⟨v0, hv0, _⟩ := hcell 0 0 c0 hc0
                obtain ⟨b, off, spot⟩ := a
                have hspot : spot = none := by simpa [Addr.add] using World.cell?_spot hv0
                subst hspot
                obtain ⟨arr, te, fr, hh, _⟩ := cell_eq.1 (show w.cell? ⟨b, off + 0, none⟩ = some v0 by simpa [Addr.add] using hv0)
                have hget : ∀ i o c, get2 rows i o = some c → ShR LF gNone w c (arr.getD (off + i * re.length + o) undef) ∧ off + i * re.length + o < arr.size := fun i o c hg => by
                  obtain ⟨v, hv, hs⟩ := hcell i o c hg
                  obtain ⟨arr', te', fr', hh', hv'⟩ := cell_eq.1 (show w.cell? ⟨b, off + i * re.length + o, none⟩ = some v by rw [Nat.add_assoc, ← plain_add]; exact hv)
                  rw [hh] at hh'
                  injection hh' with hh'; injection hh' with e1 e2 e3; subst e1
                  rw [Array.getD_eq_getD_getElem?, hv']
                  exact ⟨hs, (Array.getElem?_eq_some_iff.1 hv').1⟩
                rw [← l1]
                refine .sl .ow rows b off cap re.length arr te fr hh hlr (fun _ _ _ => rfl) ?_ (by omega) (by omega) fun i o c hg => (hget i o c hg).1
                obtain ⟨c1, hc1⟩ := get2_mk hlr (i := rows.length - 1) (o := re.length - 1) (by omega) (by omega)
                have := (hget _ _ _ hc1).2
                have e2 : rows.length * re.length = (rows.length - 1) * re.length + re.length := by
                  conv => lhs; rw [show rows.length = (rows.length - 1) + 1 by omega, Nat.add_mul, Nat.one_mul]
                omega
          · cases hc
        · cases hc
      · rename_i fs hu
        split at hc
        · rename_i rr hrr
          split at hc
          · rename_i hsz
            injection hc with hc; subst hc
            simp only [beq_iff_eq] at hsz
            obtain ⟨xs, m, hm, rfl, hl, hxl, hx⟩ := DataW.trod_struct hu h
            injection hm with hm; subst hm
            have hag := hB.agg (xs.map (·.1))
            simp only at hb
            obtain ⟨row, q1, q2, q3, q4⟩ := fields_row hB (n := fuel) (c := ctOf P n) (fun t cs x r h1 h2 h3 => ih n t cs x r h1 h2 h3) cs fs.toList 0 xs rr hrr (by simpa using hxl) (fun i f hf => hx i f (by simpa using hf)) (by omega) (by omega)
            have e : (cs.drop 0).take rr.length = cs := by rw [List.drop_zero, ← hsz, ← hl, List.take_length]
            rw [e] at q2 q3
            exact ⟨row, q1, q2, q3, by simp only; omega⟩
          · cases hc
        · cases hc
      · cases hc
end
end Go.Eng

namespace Go.Eng
variable {P : Program} {w w' : World}

def vwT : T → Cl
  | .sl _ sz rows => .vw none [] (.sl .ow sz rows)
  | t => .ow t
theorem vwT_rel {r o : Nat} {t : T} {v : Value} (h : ShR LF gNone w t v) : ClR [] gNone w r o (vwT t) v := by
  cases t with
  | lit x => cases h with | lit _ h1 => exact .lit _ _ h1
  | bad => cases h with | bad _ h1 => exact .bad _ _ h1
  | sl md sz rows => exact ⟨h.md.hd, fun _ => ⟨(h.md (b := .ow)).mono fun l hl => .inl hl, fun l lo e => by cases e⟩⟩
/-- A struct that is looked at. -/
theorem agg_rel {r : List CT} {cs : Array Value} {m : Nat} (h : RowIs w r cs.toList m) : ∃ row, tyR r row ∧ bkRow row ≤ m ∧ ∀ (tm ar : Array Value) (i : Nat), tm.getD i undef = .agg cs → VarR [] gNone w tm ar i (.val true (row.map vwT)) := by
  obtain ⟨row, h1, h2, h3, h4⟩ := h
  refine ⟨row, h1, h4, fun tm ar i hi => ⟨cs, hi, by simpa using h2, fun o c hc => ?_⟩⟩
  simp only [List.getElem?_map, Option.map_eq_some_iff] at hc
  obtain ⟨t, ht, rfl⟩ := hc
  have hlt : o < cs.size := by have := (List.getElem?_eq_some_iff.1 ht).1; simp at h2; omega
  have hv : cs.toList[o]? = some cs[o] := by simp [hlt]
  have e : cs.getD o undef = cs[o] := by simp [Array.getD_eq_getD_getElem?, Array.getElem?_eq_getElem hlt]
  rw [e]
  exact vwT_rel (h3 o t _ ht hv)
/-- A value of one cell that is looked at. -/
theorem one_rel {c : CT} {v : Value} {m : Nat} (h : RowIs w [c] [v] m) : ∃ t, tyT c t ∧ bkT t ≤ m ∧ ∀ (tm ar : Array Value) (i : Nat), tm.getD i undef = v → VarR [] gNone w tm ar i (.val false [vwT t]) := by
  obtain ⟨row, h1, h2, h3, h4⟩ := h
  simp only [tyR] at h1
  obtain ⟨t, _, rfl, k1, rfl⟩ := h1
  refine ⟨t, k1, by simpa [bkRow] using h4, fun tm ar i hi => ?_⟩
  show ClR [] gNone w i 0 (vwT t) (tm.getD i undef)
  rw [hi]
  exact vwT_rel (h3 0 t v rfl rfl)
theorem ent_none {As : List A} {vs : List Value} (hl : vs.length = As.length) (h : ∀ i a, As[i]? = some a → VarR [] gNone w vs.toArray vs.toArray i a) : Ent gNone w As [] [] vs :=
  ⟨hl, fun _ _ _ _ _ h => (by cases h), fun _ _ _ h => (by cases h), fun _ _ _ h => (by cases h), h, fun j row h => by simp at h, fun q h => by cases h⟩
theorem exi_none {g' : Ghost} {vs : List Value} {b v : Value} (h : Exi gNone w g' w' vs [.v false [.ow (.lit b)]] [] [] v) : v = b ∧ Go.RowKit.Below w.heap.size w w' := by
  refine ⟨?_, h.step.os, h.step.tape, h.step.output, h.step.size, fun k hk => ?_⟩
  · have h1 : RvR g' w' 0 (.v false [.ow (.lit b)]) v := h.res
    have h2 : ClR [] g' w' 30000 0 (.ow (.lit b)) v := h1
    exact h2.hd.1
  · have h1 : w.heap[k]? = some w.heap[k] := Array.getElem?_eq_getElem hk
    obtain ⟨o', h2, h3⟩ := h.step.block k _ h1
    rw [h1, h2]
    rcases h3 with h3 | ⟨c, c', e, fr, q1, q2, q3, q4⟩
    · rw [h3]
    · have : c' = c := Array.ext_getElem? fun j => (q4 j (by rintro ⟨l, hl, _⟩; cases hl)).symm
      rw [q1, q2, this]
theorem of_list {α : Type} {r : List CT} {f : α → Row} (h : ∀ row, tyR r row → ∃ a, row = f a) : ∀ rows : List Row, (∀ row ∈ rows, tyR r row) → ∃ xs : List α, rows = xs.map f := by
  intro rows
  induction rows with
  | nil => intro _; exact ⟨[], rfl⟩
  | cons x l ih =>
    intro hh
    obtain ⟨a, rfl⟩ := h x (hh _ (by simp))
    obtain ⟨xs, rfl⟩ := ih fun row hr => hh row (by simp [hr])
    exact ⟨a :: xs, rfl⟩
theorem law_calls {f : FuncId} {As : List A} {args : Array Value} {b : Value} (h : FnD P [] f As [] [] [.v false [.ow (.lit b)]] [] []) (hl : args.size = As.length) (ha : ∀ i a, As[i]? = some a → VarR [] gNone w args args i a) :
    Calls P f args w fun e w' => e = .returned b ∧ Go.RowKit.Below w.heap.size w w' := by
  have := h w gNone args.toList (fun x hx => by cases hx) (ent_none (by simpa using hl) (by simpa using ha))
  simp only [Array.toArray_toList] at this
  refine this.mono fun e w' ⟨v, g', he, hx⟩ => ?_
  obtain ⟨h1, h2⟩ := exi_none hx
  subst h1
  exact ⟨he, h2⟩
end Go.Eng

namespace Go.Eng
open Go.RowKit Go.WideShapes Go.ChangeShapes
variable {H : Type} {enc : TypeId × Value → H} {P : Program}
theorem law_post {f : Func} {s : ChangeSpec} {apart fresh handsOn : Bool} {W W' : World} {args : Array Value} {v : Value} {ds gs : List (DataW H)} {before pa pv : List MemPlace}
    (hW : DataW.Whole enc P f.params.toList s.vars apart W args.toList ds gs before)
    (hres : ∀ b : Nat, DataW.TrodAll enc P W' b (fun _ => false) handsOn f.resultTypes.toList (v.resultList f.resultTypes.size) (s.fn H (ds ++ gs)).results [])
    (hargs : DataW.TrodAll enc P W' 0 (fun b => decide (b < W.heap.size)) true f.params.toList args.toList (s.fn H (ds ++ gs)).args pa)
    (hvars : DataW.TrodVars enc P W' (fun b => decide (b < W.heap.size)) s.vars (s.fn H (ds ++ gs)).vars pv)
    (hsub : ∀ p ∈ before, p ∈ pa ∨ p ∈ pv) (hb : Below W.heap.size W W') : s.post enc P f apart fresh handsOn false W args v W' :=
  ⟨ds, gs, before, [], pa, pv, hW, hres _, hargs, hvars, World.keptBut_mono (fun p hp => ⟨hp, .inr (hsub p hp)⟩) (hb.frame (· ∈ before)), fun h => by cases h⟩
theorem cells_agg (cs : Array Value) : (Value.agg cs).cells = cs := rfl
end Go.Eng
