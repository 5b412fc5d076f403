/- Append. -/
import Derived.Test.YtpgdmpihbfmnfaaDoorE1
import Derived.Orders
set_option linter.unusedSimpArgs false
set_option linter.unusedVariables false
namespace Go.Eng
variable {P : Program} {N : Nat} {w0 : World} {g0 : Ghost} {ar tm : Array Value} {S S' : St} {w w' : World} {g g' : Ghost} {o : Oper} {a : Act} {c : Prop}

theorem drew_rel (h : Rel N w0 g0 ar S tm w g) : Rel N w0 g0 ar S tm w.drew g :=
  h.chg (D := fun _ => False) (M := fun _ _ => False) ⟨Step.drew w, fun k hk => hk, fun _ hd => hd.elim, h.old, fun b k _ hn => ⟨fun h => h, hn⟩, fun b k l hl _ => ⟨fun h => h, hl⟩, fun _ _ _ _ h => h⟩ h.size (fun _ _ _ hm => hm.elim)
    (fun _ _ _ _ h => h) h.inj h.old h.lab h.hi h.slot (fun v => .inl ⟨rfl, rfl, fun _ _ h => h⟩)

theorem run_append_room' {t ty e : TypeId} {i : TypeInfo} (ht : P.underlying t = some (.slice e)) (hi : P.info? e = some i) {b off n cap : Nat} {arr : Array Value} {e' : TypeId}
    (hb : w.heap[b]? = some (.cells arr e' (0, 0))) (a : Addr) (m c : Nat) (news : List Value) (hl : news.length = m * i.size) (hnews : ∀ j u, news[j]? = some u → w.cell? (a.add j) = some u)
    (h1 : ∀ u ∈ news, u.oneCell' = true) (hroom : n + m ≤ cap) (hfit : off + n * i.size + news.length ≤ arr.size) :
    (Builtin.append_ #[t, t] ty #[.slice (some ⟨b, off, none⟩) n cap, .slice (some a) m c]).run P w = .ok (.slice (some ⟨b, off, none⟩) (n + m) cap) (w.setCells b (off + n * i.size) news) := by
  have hf := run_firstCells_some (P := P) w i.size m a m c news hl hnews
  have hst := run_storeCells_cells (P := P) b (off + n * i.size) news 0 w (fun j hj => by
      simp only [Nat.add_zero]
      rw [(cell_eq (v := arr.getD (off + n * i.size + j) undef)).2 ⟨arr, e', (0, 0), hb, by rw [Array.getD_eq_getD_getElem?, Array.getElem?_eq_getElem (by omega)]; rfl⟩]; rfl)
    (fun j hj => by simp [World.frozen?, hb]) h1
  simp only [Nat.add_zero] at hst
  simp [Builtin.append_, run_underlying ht, sizeOf, typeInfo, hi, Builtin.lenOf, hroom, hf, Addr.add_mid, hst]
theorem run_append_none {t ty e : TypeId} {i : TypeInfo} (ht : P.underlying t = some (.slice e)) (hi : P.info? e = some i) {A : Option Addr} {n cap : Nat} (hle : n ≤ cap) (B : Option Addr) (c : Nat) :
    (Builtin.append_ #[t, t] ty #[.slice A n cap, .slice B 0 c]).run P w = .ok (.slice A n cap) w := by
  have hf : (Builtin.firstCells i.size 0 (.slice B 0 c)).run P w = .ok #[] w := by
    cases B with
    | none => simp [Builtin.firstCells]
    | some b => exact run_firstCells_some (P := P) w i.size 0 b 0 c [] (by simp) (by simp)
  cases A <;> simp [Builtin.append_, run_underlying ht, sizeOf, typeInfo, hi, Builtin.lenOf, hle, hf, storeCells]
theorem get2_append {r1 r2 : List Row} {i o : Nat} {c : T} (h : get2 (r1 ++ r2) i o = some c) : (i < r1.length ∧ get2 r1 i o = some c) ∨ (r1.length ≤ i ∧ get2 r2 (i - r1.length) o = some c) := by
  unfold get2 at *
  rw [List.getElem?_append] at h
  split at h
  · exact .inl ⟨by assumption, h⟩
  · exact .inr ⟨by omega, h⟩

/-- What the labels of the staged become: the second's elements go behind the first's; in a new block, the first's own cells are dropped. -/
def appL (n : Nat) (grow : Bool) (l : Lab) : Option Lab :=
  if l.1 = 19000 ∧ l.2.1 = 1 then match l.2.2 with
    | (i, o) :: x :: q => some (19000, 0, (n + i, o) :: x :: q)
    | _ => some l
  else if l.1 = 19000 ∧ l.2.1 = 0 then match l.2.2 with
    | (i, o) :: x :: q => if i < n then some l else none
    | [y] => if grow then none else some l
    | [] => some l
  else some l
theorem appL_some {n : Nat} {grow : Bool} {l m : Lab} (h : appL n grow l = some m) : (∃ i o x q, l = (19000, 1, (i, o) :: x :: q) ∧ m = (19000, 0, (n + i, o) :: x :: q)) ∨
    (m = l ∧ ∀ i o x q, l = (19000, 0, (i, o) :: x :: q) → i < n) := by
  obtain ⟨a, b, p⟩ := l
  unfold appL at h
  simp only at h
  split at h
  · rename_i hc
    obtain ⟨rfl, rfl⟩ := hc
    split at h
    · rename_i i o x q
      injection h with h
      exact .inl ⟨i, o, x, q, rfl, h.symm⟩
    · injection h with h
      exact .inr ⟨h.symm, fun i o x q e => by simp at e⟩
  · split at h
    · rename_i hc
      obtain ⟨rfl, rfl⟩ := hc
      split at h
      · rename_i i o x q
        split at h
        · injection h with h
          refine .inr ⟨h.symm, fun i' o' x' q' e => ?_⟩
          simp only [Prod.mk.injEq, List.cons.injEq, true_and] at e
          omega
        · cases h
      · split at h
        · cases h
        · injection h with h
          exact .inr ⟨h.symm, fun i o x q e => by simp at e⟩
      · injection h with h
        exact .inr ⟨h.symm, fun i o x q e => by simp at e⟩
    · rename_i hc1 hc2
      injection h with h
      refine .inr ⟨h.symm, fun i o x q e => ?_⟩
      simp only [Prod.mk.injEq] at e
      exact absurd ⟨e.1, e.2.1⟩ hc2
theorem appL_ren (n : Nat) (grow : Bool) : Ren g (appL n grow) (fun k => 19000 ≤ k.1) where
  inj := fun b k b' k' l l' m _ _ h h' => by
    rcases appL_some h with ⟨i, o, x, q, rfl, rfl⟩ | ⟨rfl, h1⟩ <;> rcases appL_some h' with ⟨i', o', x', q', rfl, e⟩ | ⟨e, h1'⟩
    · simp only [Prod.mk.injEq, List.cons.injEq, true_and] at e
      obtain ⟨⟨e1, rfl⟩, rfl, rfl⟩ := e
      rw [show i = i' by omega]
    · have := h1' (n + i) o x q (by rw [← e]); omega
    · have := h1 (n + i') o' x' q' (by rw [e]); omega
    · exact e
  sp := fun l m h hm => by
    rcases appL_some h with ⟨i, o, x, q, rfl, rfl⟩ | ⟨rfl, h1⟩
    · rcases hm with hm | hm <;> simp only at hm <;> omega
    · rfl
  root := fun r o => by unfold appL; split; rfl; split; rfl; rfl
  un := fun b k l _ hu => by
    have : l.1 ≠ 19000 := by
      rcases hu with hu | hu
      · rcases hu with hu | hu <;> omega
      · simp only at hu; omega
    unfold appL
    rw [if_neg (fun h => this h.1), if_neg (fun h => this h.1)]
theorem appL_old {n : Nat} {grow : Bool} {i o : Nat} {q : Path} (hi : i < n) (hq : q ≠ []) : appL n grow (19000, 0, (i, o) :: q) = some (19000, 0, (i, o) :: q) := by
  cases q with
  | nil => exact absurd rfl hq
  | cons x q => simp [appL, hi]
theorem appL_new {n : Nat} {grow : Bool} {i o : Nat} {q : Path} (hq : q ≠ []) : appL n grow (19000, 1, (i, o) :: q) = some (19000, 0, (n + i, o) :: q) := by
  cases q with
  | nil => exact absurd rfl hq
  | cons x q => simp [appL]

set_option maxHeartbeats 1000000 in
/-- An append to what stands ready, at number 0; the elements stand ready at number 1 (or are plain). -/
theorem app_stage (h : Rel N w0 g0 ar S tm w g) {t ty e : TypeId} {i : TypeInfo} {z : Value} (ht : P.underlying t = some (.slice e)) (hi : P.info? e = some i)
    (hz : i.zero = some z) (hzs : z.cells.size = i.size) (h0 : 0 < i.size) (hby : 0 < i.bytes) {rows rows2 : List Row} {vb : Value} (hbase : TR g w 19000 0 [] (.sl .ow i.size rows) vb)
    {ax : Option Addr} {cx : Nat} {news : List Value} (hl : news.length = rows2.length * i.size) (hrl : ∀ r ∈ rows2, r.length = i.size) (hax : 0 < rows2.length → ∃ a, ax = some a ∧ ∀ j u, news[j]? = some u → w.cell? (a.add j) = some u)
    (hy : ∀ j oo t, get2 rows2 j oo = some t → TR g w 19000 1 [(j, oo)] t (news.getD (j * i.size + oo) undef)) (hfit : (rows.length + rows2.length) * i.bytes ≤ 140737488355328) :
    ∃ v' w' g', (Builtin.append_ #[t, t] ty #[vb, .slice ax rows2.length cx]).run P w = .ok v' w' ∧ Rel N w0 g0 ar S tm w' g' ∧ TR g' w' 19000 0 [] (.sl .ow i.size (rows ++ rows2)) v' := by
  have hlen : rows.length + rows2.length ≤ 140737488355328 := Nat.le_trans (Nat.le_mul_of_pos_right _ hby) hfit
  have h1 : ∀ u ∈ news, u.oneCell' = true := by
    intro u hu
    obtain ⟨j, hj, e⟩ := List.getElem_of_mem hu
    obtain ⟨q1, q2, q3⟩ := div_mod_row (j := j) (n := rows2.length) (sz := i.size) (by omega)
    obtain ⟨c, hgc⟩ := get2_mk hrl q1 q2
    have := (hy _ _ c hgc).one
    rw [q3, List.getD_eq_getElem?_getD, List.getElem?_eq_getElem hj, e] at this
    exact this
  rcases Nat.eq_zero_or_pos rows2.length with hm | hm
  · -- nothing comes
    obtain rfl : rows2 = [] := List.eq_nil_of_length_eq_zero hm
    have hv : ∃ A n cap, vb = .slice A n cap ∧ n ≤ cap := by
      cases hbase with
      | nil => exact ⟨_, _, _, rfl, Nat.zero_le _⟩
      | own _ _ _ b off cap _ arr e _ _ _ _ hle => exact ⟨_, _, _, rfl, hle⟩
    obtain ⟨A', n, cap, rfl, hle⟩ := hv
    exact ⟨_, w, g, run_append_none ht hi hle ax cx, h, by rw [List.append_nil]; exact hbase⟩
  obtain ⟨a, rfl, hnews⟩ := hax hm
  have h63 : ((rows.length + rows2.length : Nat) : Int) ≤ 9223372036854775807 := by omega
  have hlapp : (rows ++ rows2).length = rows.length + rows2.length := by simp
  have hrlapp : (∀ r ∈ rows, r.length = i.size) → ∀ r ∈ rows ++ rows2, r.length = i.size := fun hlr r hr => by
    rcases List.mem_append.1 hr with hr | hr
    · exact hlr r hr
    · exact hrl r hr
  -- the children, where their labels have followed
  have child : ∀ (g' : Ghost) (w' : World) (M : Nat → Nat → Prop) (grow : Bool), Step M w w' → (∀ b k, b < w.heap.size → g b k = none → ¬ M b k ∧ g' b k = none) → (∀ b k l m, b < w.heap.size → g b k = some l → appL rows.length grow l = some m → (∀ i o, l ≠ (19000, 0, [(i, o)])) → ¬ M b k ∧ g' b k = some m) →
      (∀ j oo t x, j < rows.length → TR g w 19000 0 [(j, oo)] t x → TR g' w' 19000 0 [(j, oo)] t x) ∧ ∀ j oo t x, TR g w 19000 1 [(j, oo)] t x → TR g' w' 19000 0 [(rows.length + j, oo)] t x := by
    intro g' w' M grow hst hF hU
    refine ⟨fun j oo t x hj hx => hx.map hst hF _ fun b k q hb hq hg => ?_, fun j oo t x hx => hx.map hst hF _ fun b k q hb hq hg => ?_⟩
    · exact hU b k _ _ hb hg (appL_old hj hq) (by intro i o e; simp at e; exact hq e.2)
    · exact hU b k _ _ hb hg (appL_new hq) (by intro i o e; simp at e)
  -- the cells of a new block
  have grow : ∀ (olds : List Value) (cap' : Nat), olds.length = rows.length * i.size → rows.length + rows2.length ≤ cap' → (∀ r ∈ rows, r.length = i.size) →
      (∀ j o c, get2 rows j o = some c → TR g w 19000 0 [(j, o)] c (olds.getD (j * i.size + o) undef)) →
      ∃ g', Rel N w0 g0 ar S tm (w.drew.alloc (.cells (olds.toArray ++ news.toArray ++ Builtin.zeroCells z.cells (cap' - (rows.length + rows2.length))) e)) g' ∧
        TR g' (w.drew.alloc (.cells (olds.toArray ++ news.toArray ++ Builtin.zeroCells z.cells (cap' - (rows.length + rows2.length))) e)) 19000 0 [] (.sl .ow i.size (rows ++ rows2))
          (.slice (some ⟨w.heap.size, 0, none⟩) (rows.length + rows2.length) cap') := by
    intro olds cap' hol hcap hrl1 hor
    let arr := olds.toArray ++ news.toArray ++ Builtin.zeroCells z.cells (cap' - (rows.length + rows2.length))
    let γ : Nat → Option Lab := fun k => if k < cap' * i.size then some (19000, 0, [(k / i.size, k % i.size)]) else none
    have hsz : arr.size = cap' * i.size := by
      simp only [arr, Array.size_append, List.size_toArray, size_zeroCells, hol, hl, hzs]
      rw [← Nat.add_mul, ← Nat.add_mul]; congr 1; omega
    have hρ : Ren g (appL rows.length true) (fun k => 19000 ≤ k.1) := appL_ren _ _
    have hrel := (drew_rel h).new (S' := S) (tm' := tm) hρ (fun k hk => hk) (fun k hk => .inr hk) (.cells arr e) γ h.size (fun k l hk hs => by
        simp only [γ] at hk; split at hk
        · injection hk with hk; subst hk; rcases hs with hs | hs <;> simp only at hs <;> omega
        · cases hk)
      (fun k k' l h1 h2 => by
        simp only [γ] at h1 h2
        split at h1
        · split at h2
          · injection h1 with h1; subst h1
            simp only [Option.some.injEq, Prod.mk.injEq, List.cons.injEq, and_true, true_and] at h2
            rw [← Nat.div_add_mod' k i.size, ← Nat.div_add_mod' k' i.size, h2.1, h2.2]
          · cases h2
        · cases h1)
      (fun k l b k' l' hk hg' he => by
        simp only [γ] at hk; split at hk
        · injection hk with hk; subst hk
          rcases appL_some he with ⟨i', o', x, q, rfl, e2⟩ | ⟨e2, h3⟩
          · simp at e2
          · subst e2
            simp [appL] at he
        · cases hk)
      (fun k l hk => by
        simp only [γ] at hk; split at hk
        · injection hk with hk; subst hk; exact .inl (Nat.le_refl _)
        · cases hk)
      (fun b k l hg m hm => by
        rcases appL_some hm with ⟨i', o', x, q, rfl, rfl⟩ | ⟨rfl, h3⟩
        · exact .inr (.inl (Nat.le_refl _))
        · exact h.lab b k m hg) h.hi h.slot (fun v => .inl ⟨rfl, rfl, fun o ho hd => by rw [h.hi v hd] at ho; cases ho⟩)
    refine ⟨_, hrel, ?_⟩
    obtain ⟨ch1, ch2⟩ := child (gnew (gren (appL rows.length true) g) w.drew.heap.size γ) (w.drew.alloc (.cells arr e)) (fun _ _ => False) true ((Step.drew w).trans (N := fun _ _ => False) (Step.alloc w.drew _) (fun _ _ _ h => h))
      (fun b k hb hn => ⟨fun h => h, by rw [gnew_old (show b < w.drew.heap.size from hb)]; exact gren_none hn⟩) (fun b k l m hb hg hm _ => ⟨fun h => h, by rw [gnew_old (show b < w.drew.heap.size from hb)]; exact gren_of hg hm⟩)
    have := TR.own (g := gnew (gren (appL rows.length true) g) w.drew.heap.size γ) (w := w.drew.alloc (.cells arr e)) (r := 19000) (o := 0) [] .ow (rows ++ rows2) w.heap.size 0 cap' i.size arr e (by simp) (alloc_at w.drew _) (hrlapp hrl1) (by rw [bnd_ow]; omega) (by omega) h0 (by omega)
      (fun i' o' hi' ho' => by
        rw [bnd_ow] at hi'
        have hh : gnew (gren (appL rows.length true) g) w.drew.heap.size γ w.heap.size (0 + i' * i.size + o') = γ (0 + i' * i.size + o') := gnew_new
        rw [hh]
        have := idx_lt hi' ho'
        simp only [γ]
        rw [Nat.zero_add, if_pos this]
        have e1 : (i' * i.size + o') / i.size = i' := by rw [Nat.mul_comm, Nat.mul_add_div h0, Nat.div_eq_of_lt ho', Nat.add_zero]
        have e2 : (i' * i.size + o') % i.size = o' := by rw [Nat.mul_comm, Nat.mul_add_mod, Nat.mod_eq_of_lt ho']
        rw [e1, e2]; rfl)
      (fun j o c hgc => by
        rw [List.nil_append, Nat.zero_add]
        rcases get2_append hgc with ⟨hj, hg2⟩ | ⟨hj, hg2⟩
        · obtain ⟨_, ho⟩ := get2_lt hg2 hrl1
          have hlt := idx_lt hj ho
          have : arr.getD (j * i.size + o) undef = olds.getD (j * i.size + o) undef := by
            simp only [arr, Array.getD_eq_getD_getElem?, List.getD_eq_getElem?_getD]
            rw [Array.getElem?_append_left (by simp; omega), Array.getElem?_append_left (by simp; omega)]; simp
          rw [this]; exact ch1 _ _ _ _ hj (hor j o c hg2)
        · obtain ⟨hj2, ho⟩ := get2_lt hg2 hrl
          have hlt := idx_lt hj2 ho
          have hjs : j * i.size + o = rows.length * i.size + ((j - rows.length) * i.size + o) := by
            have : j * i.size = rows.length * i.size + (j - rows.length) * i.size := by rw [← Nat.add_mul]; congr 1; omega
            omega
          have : arr.getD (j * i.size + o) undef = news.getD ((j - rows.length) * i.size + o) undef := by
            rw [hjs]
            simp only [arr, Array.getD_eq_getD_getElem?, List.getD_eq_getElem?_getD]
            rw [Array.getElem?_append_left (by simp; omega), Array.getElem?_append_right (by simp; omega)]
            simp [hol]
          rw [this]
          have := ch2 _ _ _ _ (hy _ o c hg2)
          rwa [show rows.length + (j - rows.length) = j by omega] at this)
    rw [hlapp] at this
    exact this
  have hcapge : ∀ old, rows.length + rows2.length ≤ grownCap w (rows.length + rows2.length) old e := fun old => by
    exact Nat.le_add_right _ _
  cases hbase with
  | nil _ _ _ A c0 _ hc00 =>
    have hc00 := hc00 rfl
    subst hc00
    cases A with
    | none =>
      have hrun := run_append_nil (P := P) w t ty e i z ht hi hz a rows2.length cx news hl hnews hm (by simpa using h63) (by simp at hfit; omega)
      obtain ⟨g', k1, k2⟩ := grow [] (grownCap w rows2.length 0 e) (by simp) (by simpa using hcapge 0) (by simp) (by simp [get2])
      refine ⟨_, _, g', hrun, ?_, ?_⟩
      · simpa using k1
      · simpa using k2
    | some A =>
      have hrun := run_append_grow (P := P) w t ty e i z ht hi hz A 0 0 [] (by simp) (by simp) a rows2.length cx news hl hnews (by omega) (by simpa using h63) (growslice_fits (by omega) (by simpa using hfit))
      obtain ⟨g', k1, k2⟩ := grow [] (grownCap w (0 + rows2.length) 0 e) (by simp) (by simpa using hcapge 0) (by simp) (by simp [get2])
      refine ⟨_, _, g', hrun, ?_, ?_⟩
      · simpa using k1
      · simpa using k2
  | own _ _ _ b off cap _ arr e' _ hb hlr hs hle h00 hn hlab hc =>
    rw [bnd_ow] at hs hlab
    by_cases hroom : rows.length + rows2.length ≤ cap
    · have hmul : rows.length * i.size + news.length ≤ cap * i.size := by
        rw [hl, ← Nat.add_mul]; exact Nat.mul_le_mul_right _ hroom
      have hrun := run_append_room' (P := P) (ty := ty) (off := off) (n := rows.length) (cap := cap) ht hi hb a rows2.length cx news hl hnews h1 hroom (by omega)
      have hρ : Ren g (appL rows.length false) (fun k => 19000 ≤ k.1) := appL_ren _ _
      have hM : ∀ j, j < news.length → ∃ i' o', rows.length ≤ i' ∧ i' < cap ∧ o' < i.size ∧ g b (off + rows.length * i.size + j) = some (19000, 0, [(i', o')]) := fun j hj => by
        have hjj : j < rows2.length * i.size := by rw [← hl]; exact hj
        obtain ⟨jq, jr, q1, q2, q3⟩ : ∃ jq jr, jq < rows2.length ∧ jr < i.size ∧ jq * i.size + jr = j := ⟨_, _, div_mod_row hjj⟩
        refine ⟨rows.length + jq, jr, by omega, by omega, q2, ?_⟩
        have := hlab (rows.length + jq) jr (by omega) q2
        rw [Nat.add_mul, show off + (rows.length * i.size + jq * i.size) + jr = off + rows.length * i.size + j by omega] at this
        rwa [List.nil_append] at this
      have hMl : ∀ b' k' l, (b' = b ∧ off + rows.length * i.size ≤ k' ∧ k' < off + rows.length * i.size + news.length) → g b' k' = some l → ∃ i' o', l = (19000, 0, [(i', o')]) := fun b' k' l hm hl => by
        obtain ⟨rfl, x1, x2⟩ := hm
        obtain ⟨i', o', _, _, _, hh⟩ := hM (k' - (off + rows.length * i.size)) (by omega)
        rw [show off + rows.length * i.size + (k' - (off + rows.length * i.size)) = k' by omega, hl] at hh
        injection hh with hh; exact ⟨i', o', hh⟩
      have hrel := write_rel h (S' := S) hρ (fun k hk => hk) (fun k hk => .inr hk) (k := off + rows.length * i.size) (vs := news) hb (fun j hj => by
          obtain ⟨i', o', _, _, _, hh⟩ := hM j hj
          exact ⟨_, hh, by rintro (h | h) <;> simp only at h <;> omega, Nat.le_refl _⟩)
        (fun b k l hg m hm => by
          rcases appL_some hm with ⟨i', o', x, q, rfl, rfl⟩ | ⟨rfl, h3⟩
          · exact .inr (.inl (Nat.le_refl _))
          · exact h.lab b k m hg) h.hi h.slot (fun _ v => .inl ⟨rfl, fun o ho hd => by rw [h.hi v hd] at ho; cases ho⟩)
      refine ⟨_, _, _, hrun, hrel, ?_⟩
      obtain ⟨q1, q2, q3, _⟩ := setCells_heap b e' (0, 0) news (off + rows.length * i.size) w arr hb
      obtain ⟨ch1, ch2⟩ := child (gren (appL rows.length false) g) (w.setCells b (off + rows.length * i.size) news) _ false (Step.setCells hb)
        (fun b' k' hb' hn => ⟨fun hm => (by
          obtain ⟨rfl, x1, x2⟩ := hm
          obtain ⟨i', o', _, _, _, hh⟩ := hM (k' - (off + rows.length * i.size)) (by omega)
          rw [show off + rows.length * i.size + (k' - (off + rows.length * i.size)) = k' by omega, hn] at hh
          cases hh), gren_none hn⟩)
        (fun b' k' l m hb' hg hm hne => ⟨fun hmm => by
          obtain ⟨i', o', rfl⟩ := hMl _ _ _ hmm hg
          exact hne _ _ rfl, gren_of hg hm⟩)
      have := TR.own (g := gren (appL rows.length false) g) (w := w.setCells b (off + rows.length * i.size) news) (r := 19000) (o := 0) [] .ow (rows ++ rows2) b off cap i.size _ e' (by simp) q1 (hrlapp hlr) (by rw [arrSet_size]; exact hs) (by rw [hlapp]; exact hroom) h0 (by rw [hlapp]; omega)
        (fun i' o' hi' ho' => by
          have := hlab i' o' hi' ho'
          exact gren_of this (by simp [appL]))
        (fun j o c hgc => by
          rw [List.nil_append]
          rcases get2_append hgc with ⟨hj, hg2⟩ | ⟨hj, hg2⟩
          · obtain ⟨_, ho⟩ := get2_lt hg2 hlr
            have hlt := idx_lt hj ho
            rw [getD_of_getElem? (arrSet_out _ _ _ _ (.inl (by omega)))]
            exact ch1 _ _ _ _ hj (by have := hc j o c hg2; rwa [List.nil_append] at this)
          · obtain ⟨hj2, ho⟩ := get2_lt hg2 hrl
            have hlt := idx_lt hj2 ho
            have hjs : off + j * i.size + o = off + rows.length * i.size + ((j - rows.length) * i.size + o) := by
              have : j * i.size = rows.length * i.size + (j - rows.length) * i.size := by rw [← Nat.add_mul]; congr 1; omega
              omega
            rw [hjs, Array.getD_eq_getD_getElem?, arrSet_in _ _ _ _ (by omega) (by omega), ← List.getD_eq_getElem?_getD]
            have := ch2 _ _ _ _ (hy _ o c hg2)
            rwa [show rows.length + (j - rows.length) = j by omega] at this)
      rw [hlapp] at this
      exact this
    · have hle2 : rows.length * i.size ≤ cap * i.size := Nat.mul_le_mul_right _ hle
      obtain ⟨g', k1, k2⟩ := grow ((List.range (rows.length * i.size)).map fun j => arr.getD (off + j) undef) (grownCap w (rows.length + rows2.length) cap e) (by simp) (hcapge cap) hlr (fun j o c hgc => by
        obtain ⟨hj, ho⟩ := get2_lt hgc hlr
        rw [List.getD_eq_getElem?_getD, List.getElem?_map, List.getElem?_range (idx_lt hj ho)]
        have := hc j o c hgc
        rw [List.nil_append] at this
        simpa [Nat.add_assoc] using this)
      have hrun := run_append_grow (P := P) w t ty e i z ht hi hz ⟨b, off, none⟩ rows.length cap ((List.range (rows.length * i.size)).map fun j => arr.getD (off + j) undef) (by simp) (fun j u hj => by
        rw [Addr.add_mid]; exact range_sh hb (by omega) j u hj) a rows2.length cx news hl hnews (by omega) h63 (growslice_fits (by omega) hfit)
      exact ⟨_, _, g', hrun, k1, k2⟩

/-- The cells of a slice that is read. -/
theorem sh_cells {L : Option Lab → Prop} {fz : Md} {sz : Nat} {rows : List Row} {v : Value} (h : ShR L g w (.sl fz sz rows) v) : ∃ A c, ∃ news : List Value, v = .slice A rows.length c ∧ news.length = rows.length * sz ∧
    (∀ r ∈ rows, r.length = sz) ∧ (∀ i o t, get2 rows i o = some t → ShR L g w t (news.getD (i * sz + o) undef)) ∧ (0 < rows.length → ∃ a, A = some a ∧ ∀ j u, news[j]? = some u → w.cell? (a.add j) = some u) := by
  cases h with
  | emp _ _ A c => exact ⟨A, c, [], rfl, by simp, by simp, by simp [get2], by simp⟩
  | sl _ _ b off cap _ arr e fr hb hl hg hs hn hle hc =>
    refine ⟨_, cap, (List.range (rows.length * sz)).map fun j => arr.getD (off + j) undef, rfl, by simp, hl, fun i o t hgc => ?_, fun _ => ⟨_, rfl, fun j u hj => ?_⟩⟩
    · obtain ⟨hi, ho⟩ := get2_lt hgc hl
      have := hc i o t hgc
      rw [List.getD_eq_getElem?_getD, List.getElem?_map, List.getElem?_range (idx_lt hi ho)]
      rwa [show off + i * sz + o = off + (i * sz + o) by omega] at this
    · rw [Addr.add_mid]; exact range_sh hb hs j u hj
theorem tr_cells {r o : Nat} {p : Path} {sz : Nat} {rows : List Row} {v : Value} (h : TR g w r o p (.sl .ow sz rows) v) : ∃ A c, ∃ news : List Value, v = .slice A rows.length c ∧ news.length = rows.length * sz ∧
    (∀ r ∈ rows, r.length = sz) ∧ (∀ i o' t, get2 rows i o' = some t → TR g w r o (p ++ [(i, o')]) t (news.getD (i * sz + o') undef)) ∧ (0 < rows.length → ∃ a, A = some a ∧ ∀ j u, news[j]? = some u → w.cell? (a.add j) = some u) := by
  cases h with
  | nil _ _ _ A c0 => exact ⟨A, c0, [], rfl, by simp, by simp, by simp [get2], by simp⟩
  | own _ _ _ b off cap _ arr e _ hb hl hs hle h0 hn hlab hc =>
    rw [bnd_ow] at hs
    have h1 : rows.length * sz ≤ cap * sz := Nat.mul_le_mul_right _ hle
    refine ⟨_, cap, (List.range (rows.length * sz)).map fun j => arr.getD (off + j) undef, rfl, by simp, hl, fun i o t hgc => ?_, fun _ => ⟨_, rfl, fun j u hj => ?_⟩⟩
    · obtain ⟨hi, ho⟩ := get2_lt hgc hl
      have := hc i o t hgc
      rw [List.getD_eq_getElem?_getD, List.getElem?_map, List.getElem?_range (idx_lt hi ho)]
      rwa [show off + i * sz + o = off + (i * sz + o) by omega] at this
    · rw [Addr.add_mid]; exact range_sh hb (by omega) j u hj
theorem flat_get {rows : List Row} (h : flatRows rows = true) {i o : Nat} {t : T} (hg : get2 rows i o = some t) : ∃ v, t = .lit v := by
  unfold get2 at hg
  cases hr : rows[i]? with
  | none => rw [hr] at hg; simp at hg
  | some r =>
    rw [hr] at hg
    simp only [flatRows, List.all_eq_true] at h
    have := h r (List.mem_of_getElem? hr) t (List.mem_of_getElem? hg)
    cases t with
    | lit v => exact ⟨v, rfl⟩
    | _ => simp [T.flat] at this

theorem app_sound {d sz bytes : Nat} {x y : Opd} (hfit : EOp.fit P o (.app d x y sz bytes) = true) (hN : N ≤ 10000) (hd : d < N) (h : Rel N w0 g0 ar S a.tmps w g) (he : eev S (.app d x y sz bytes) = some (c, S')) (hc : c) : Runs P N w0 g0 ar o a w S' := by
  simp only [EOp.fit, Bool.and_eq_true, beq_iff_eq] at hfit
  obtain ⟨h1, h2⟩ := hfit
  split at h2
  · rename_i cl ho
    obtain ⟨cal, args, tys⟩ := cl
    split at h2
    · rename_i u v t t' hcal hx ht
      obtain rfl : cal = .builtin .append := hcal
      obtain rfl : args = #[u, v] := by cases args; simpa using hx
      obtain rfl : tys = #[t, t'] := by cases tys; simpa using ht
      simp only [Bool.and_eq_true, beq_iff_eq] at h2
      obtain ⟨⟨⟨rfl, hu⟩, hv⟩, h2⟩ := h2
      split at h2
      · rename_i e hund
        split at h2
        · rename_i i hi
          simp only [Bool.and_eq_true, beq_iff_eq, decide_eq_true_eq] at h2
          obtain ⟨⟨⟨⟨rfl, rfl⟩, hsz0⟩, hby0⟩, h2⟩ := h2
          split at h2
          · rename_i z hz
            simp only [beq_iff_eq] at h2
            have hb := run_builtin (ρ := a.eval) ho
            have hrun : ∀ v' w', (Builtin.append_ #[t, t] o.type #[x.val a.tmps, y.val a.tmps]).run P w = .ok v' w' → (execOp a.eval o).run P w = .ok (.value v') w' := by
              intro v' w' q1
              rw [hb]
              have e2 : (#[u, v].map a.eval) = #[x.val a.tmps, y.val a.tmps] := by rw [← opdB_eval hu a, ← opdB_eval hv a]; simp
              rw [e2]
              exact run_seq (P := P) _ (fun v => pure (Next.value v)) w q1
            simp only [eev] at he
            split at he
            · rename_i sz1 rows S1 hrs
              obtain ⟨g1, k1, k2, k3⟩ := rsv_sound h hrs 0
              have k2 : TR g1 w 19000 0 [] (.sl .ow sz1 rows) (x.val a.tmps) := k2
              split at he
              · rename_i cc hr
                split at he
                · rename_i fz sz2 rows2 htree
                  split at he
                  · rename_i hflat
                    simp only [Option.some.injEq, Prod.mk.injEq] at he
                    obtain ⟨rfl, rfl⟩ := he
                    obtain ⟨rfl, rfl, hok, hfit⟩ := hc
                    obtain ⟨hcl, hpl⟩ := vrow_one k1 hr
                    have hsh : ∃ L, ShR L g1 w (.sl fz i.size rows2) (y.val a.tmps) := by
                      cases cc with
                      | vw pl ks q => simp only [Cl.tree] at htree; subst htree; exact ⟨_, ((hcl 0 0).2 (keyB_vd hok)).1⟩
                      | ow q => simp only [Cl.tree] at htree; subst htree; exact ⟨_, TR.sh (hcl 0 0)⟩
                    obtain ⟨L, hsh⟩ := hsh
                    obtain ⟨A, cx, news, hvy, m1, m2, m3, m4⟩ := sh_cells hsh
                    obtain ⟨v', w', g2, z1, z2, z3⟩ := app_stage (P := P) (ty := o.type) k1 hund hi hz h2 hsz0 hby0 k2 m1 m2 m4 (fun j oo q hg => by
                      obtain ⟨lv, rfl⟩ := flat_get hflat hg
                      have := m3 j oo _ hg
                      generalize news.getD (j * i.size + oo) undef = xx at this
                      cases this with | lit _ hone => exact .lit _ _ hone) hfit
                    rw [← hvy] at z1
                    obtain ⟨g3, y1, _⟩ := z2.putRow (base := 0) (agg := false) (row := [.ow (.sl .ow i.size (rows ++ rows2))]) hd (by omega) z3
                    exact .value h1 (hrun _ _ z1) y1
                  · split at he
                    · rename_i sz3 rows3 S2 hrs2
                      simp only [Option.some.injEq, Prod.mk.injEq] at he
                      obtain ⟨rfl, rfl⟩ := he
                      obtain ⟨rfl, rfl, hfit⟩ := hc
                      obtain ⟨g2, n1, n2, n3⟩ := rsv_sound k1 hrs2 1
                      have n2 : TR g2 w 19000 1 [] (.sl .ow i.size rows3) (y.val a.tmps) := n2
                      have n4 : TR g2 w 19000 0 [] (.sl .ow i.size rows) (x.val a.tmps) := n3.st 0 (.ow (.sl .ow i.size rows)) _ (by omega) k2
                      obtain ⟨A, cx, news, hvy, m1, m2, m3, m4⟩ := tr_cells n2
                      obtain ⟨v', w', g3, z1, z2, z3⟩ := app_stage (P := P) (ty := o.type) n1 hund hi hz h2 hsz0 hby0 n4 m1 m2 m4 (fun j oo q hg => by have := m3 j oo q hg; rwa [List.nil_append] at this) hfit
                      rw [← hvy] at z1
                      obtain ⟨g4, y1, _⟩ := z2.putRow (base := 0) (agg := false) (row := [.ow (.sl .ow i.size (rows ++ rows3))]) hd (by omega) z3
                      exact .value h1 (hrun _ _ z1) y1
                    · cases he
                · cases he
              · cases he
            · cases he
          · cases h2
        · cases h2
      · cases h2
    · cases h2
  · cases h2
end Go.Eng

namespace Go.Eng
variable {P : Program} {N : Nat} {w0 : World} {g0 : Ghost} {ar tm : Array Value} {S S' : St} {w w' : World} {g g' : Ghost} {o : Oper} {a : Act} {c : Prop}

/-- A result: a value, or a pointer to new memory. -/
inductive Rv where
  | v (agg : Bool) (row : List Cl)
  | bx (row : Row)

def RvR (g : Ghost) (w : World) (m : Nat) : Rv → Value → Prop
  | .v agg row, x => ValR [] g w (30000 + m) 0 agg row x
  | .bx row, x => ∃ b k, x = .pointer (some ⟨b, k, none⟩) ∧ g b k = some (30000 + m, 0, []) ∧ 0 < row.length ∧ VarR [] g w #[] #[] (30000 + m) (.mem (row.map .ow))
def ResR (g : Ghost) (w : World) : List Rv → Value → Prop
  | [r], x => RvR g w 0 r x
  | rs, x => ∃ vs, x = .tuple vs ∧ vs.size = rs.length ∧ ∀ m r, rs[m]? = some r → RvR g w m r (vs.getD m undef)

/-- Tables that nobody writes. -/
abbrev Glob := List (Nat × Array Value × TypeId)
def glR (G : Glob) (g : Ghost) (w : World) : Prop := ∀ x ∈ G, (∃ fr, w.heap[x.1]? = some (.cells x.2.1 x.2.2 fr)) ∧ ∀ k, g x.1 k = none

def argS : Nat → List A → List (Nat × A)
  | _, [] => []
  | i, a :: l => (i, a) :: argS (i + 1) l
def memS : Nat → List Row → List (Nat × A)
  | _, [] => []
  | j, r :: l => (15000 + j, .mem (r.map .ow)) :: memS (j + 1) l
def hidS : List (Nat × Row) → List (Nat × A)
  | [] => []
  | q :: l => (16000 + q.1, .hid q.2) :: hidS l
/-- The state in which a function begins. -/
def initS (As : List A) (mems : List Row) (hids : List (Nat × Row)) : St := ⟨argS 0 As ++ (memS 0 mems ++ hidS hids), []⟩

structure Ent (g : Ghost) (w : World) (As : List A) (mems : List Row) (hids : List (Nat × Row)) (vs : List Value) : Prop where
  len : vs.length = As.length
  inj : ∀ b k b' k' l, g b k = some l → g b' k' = some l → b = b' ∧ k = k'
  old : ∀ b k l, g b k = some l → b < w.heap.size
  lab : ∀ b k l, g b k = some l → Sp l ∨ hasL ((initS As mems hids).get l.1) l.2.1 l.2.2 = true
  args : ∀ i a, As[i]? = some a → VarR [] g w vs.toArray vs.toArray i a
  mems : ∀ j row, mems[j]? = some row → VarR [] g w vs.toArray vs.toArray (15000 + j) (.mem (row.map .ow))
  hids : ∀ q ∈ hids, VarR [] g w vs.toArray vs.toArray (16000 + q.1) (.hid q.2)

structure Exi (g : Ghost) (w : World) (g' : Ghost) (w' : World) (vs : List Value) (rs : List Rv) (mems : List Row) (hids : List (Nat × Row)) (v : Value) : Prop where
  inj : ∀ b k b' k' l, g' b k = some l → g' b' k' = some l → b = b' ∧ k = k'
  old : ∀ b k l, g' b k = some l → b < w'.heap.size
  step : Step (Wr g) w w'
  none : ∀ b k, b < w.heap.size → g b k = none → g' b k = none
  sp : ∀ b k l, Sp l → (g b k = some l ↔ g' b k = some l)
  outk : ∀ b k r o, 15000 ≤ r → r < 16000 → g b k = some (r, o, []) → g' b k = some (r, o, [])
  res : ResR g' w' rs v
  mems : ∀ j row, mems[j]? = some row → VarR [] g' w' #[] #[] (15000 + j) (.mem (row.map .ow))
  hids : ∀ q ∈ hids, VarR [] g' w' #[] vs.toArray (16000 + q.1) (.hid q.2)

/-- The contract: of arguments that read as told, the function returns what is told. -/
def FnD (P : Program) (G : Glob) (f : FuncId) (As : List A) (mems : List Row) (hids : List (Nat × Row)) (rs : List Rv) (mems' : List Row) (hids' : List (Nat × Row)) : Prop :=
  ∀ w g vs, glR G g w → Ent g w As mems hids vs → Calls P f vs.toArray w fun e w' => ∃ v g', e = .returned v ∧ Exi g w g' w' vs rs mems' hids' v

/-! ### What the caller's labels become on the way in, and on the way back -/
inductive Grp where
  | cm (r o n j : Nat)
  | ce (r o : Nat) (p : Path) (i oo n j : Nat)
  | ch (l : Lab) (m o n : Nat)
  | cs (m o : Nat)
namespace Grp
def r : Grp → Nat
  | .cm r _ _ _ => r
  | .ce r _ _ _ _ _ _ => r
  | .ch l _ _ _ => l.1
  | .cs _ _ => 19000
def lo : Grp → Nat
  | .cm _ o _ _ => o
  | .ce _ o _ _ _ _ _ => o
  | .ch l _ _ _ => l.2.1
  | .cs m o => 1000 * m + o
def hi : Grp → Nat
  | .cm _ o n _ => o + n
  | .ce _ o _ _ _ _ _ => o + 1
  | .ch l _ _ _ => l.2.1 + 1
  | .cs m o => 1000 * m + o + 1
def d : Grp → Nat
  | .cm _ _ _ j => 15000 + j
  | .ce _ _ _ _ _ _ j => 15000 + j
  | .ch _ m _ _ => 16000 + m
  | .cs m _ => m
def dlo : Grp → Nat
  | .ch _ _ o _ => o
  | .cs _ o => o
  | _ => 0
def dhi : Grp → Nat
  | .cm _ _ n _ => n
  | .ce _ _ _ _ _ n _ => n
  | .ch _ _ o _ => o + 1
  | .cs _ o => o + 1
def to : Grp → Lab → Option Lab
  | .cm r o n j, l => if l.1 = r ∧ o ≤ l.2.1 ∧ l.2.1 < o + n then some (15000 + j, l.2.1 - o, l.2.2) else none
  | .ce r o p i oo n j, l => if l.1 = r ∧ l.2.1 = o then match strip p l.2.2 with
      | some ((i', o') :: q) => if i' = i ∧ oo ≤ o' ∧ o' < oo + n then some (15000 + j, o' - oo, q) else none
      | _ => none else none
  | .ch l0 m o n, l => if l.1 = l0.1 ∧ l.2.1 = l0.2.1 then match strip l0.2.2 l.2.2 with
      | some ((i, j) :: q) => if i < n then some (16000 + m, o, (i, j) :: q) else none
      | _ => none else none
  | .cs m o, l => if l.1 = 19000 ∧ l.2.1 = 1000 * m + o ∧ l.2.2 ≠ [] then some (m, o, l.2.2) else none
def back : Grp → Lab → Option Lab
  | .cm r o n j, l => if l.1 = 15000 + j ∧ l.2.1 < n then some (r, o + l.2.1, l.2.2) else none
  | .ce r o p i oo n j, l => if l.1 = 15000 + j ∧ l.2.1 < n then some (r, o, p ++ (i, oo + l.2.1) :: l.2.2) else none
  | .ch l0 m o n, l => if l.1 = 16000 + m ∧ l.2.1 = o then match l.2.2 with
      | (i, j) :: q => if i < n then some (l0.1, l0.2.1, l0.2.2 ++ (i, j) :: q) else none
      | [] => none else none
  | .cs _ _, _ => none
def isS : Grp → Bool
  | .cs _ _ => true
  | _ => false

theorem to_src {g : Grp} {l x : Lab} (h : g.to l = some x) : l.1 = g.r ∧ g.lo ≤ l.2.1 ∧ l.2.1 < g.hi := by
  cases g with
  | cm r o n j =>
    simp only [to] at h; split at h
    · rename_i hc; exact hc
    · cases h
  | ce r o p i oo n j =>
    simp only [to] at h; split at h
    · rename_i hc; exact ⟨hc.1, by simp [lo, hc.2], by simp [hi, hc.2]⟩
    · cases h
  | ch l0 m o n =>
    simp only [to] at h; split at h
    · rename_i hc; exact ⟨hc.1, by simp [lo, hc.2], by simp [hi, hc.2]⟩
    · cases h
  | cs m o =>
    simp only [to] at h; split at h
    · rename_i hc; exact ⟨hc.1, by simp [lo, hc.2.1], by simp [hi, hc.2.1]⟩
    · cases h
theorem to_dst {g : Grp} {l x : Lab} (h : g.to l = some x) : x.1 = g.d ∧ g.dlo ≤ x.2.1 ∧ x.2.1 < g.dhi := by
  cases g with
  | cm r o n j =>
    simp only [to] at h; split at h
    · rename_i hc; injection h with h; subst h; exact ⟨rfl, Nat.zero_le _, by simp only [dhi]; omega⟩
    · cases h
  | ce r o p i oo n j =>
    simp only [to] at h; split at h
    · split at h
      · split at h
        · rename_i hc; injection h with h; subst h; exact ⟨rfl, Nat.zero_le _, by simp only [dhi]; omega⟩
        · cases h
      · cases h
    · cases h
  | ch l0 m o n =>
    simp only [to] at h; split at h
    · split at h
      · split at h
        · injection h with h; subst h; exact ⟨rfl, Nat.le_refl _, by simp only [dhi]; omega⟩
        · cases h
      · cases h
    · cases h
  | cs m o =>
    simp only [to] at h; split at h
    · injection h with h; subst h; exact ⟨rfl, Nat.le_refl _, by simp only [dhi]; omega⟩
    · cases h
theorem to_back {g : Grp} {l x : Lab} (h : g.to l = some x) (hs : g.isS = false) : g.back x = some l := by
  obtain ⟨a, b, p0⟩ := l
  cases g with
  | cm r o n j =>
    simp only [to] at h; split at h
    · rename_i hc; injection h with h; subst h
      simp only [back]
      rw [if_pos ⟨trivial, by omega⟩, hc.1, show o + (b - o) = b by omega]
    · cases h
  | ce r o p i oo n j =>
    simp only [to] at h; split at h
    · rename_i hk
      split at h
      · rename_i i' o' q hs'
        split at h
        · rename_i hc; injection h with h; subst h
          simp only [back]
          rw [if_pos ⟨trivial, by omega⟩, strip_iff.1 hs', hk.1, hk.2, hc.1, show oo + (o' - oo) = o' by omega]
        · cases h
      · cases h
    · cases h
  | ch l0 m o n =>
    simp only [to] at h; split at h
    · rename_i hk
      split at h
      · rename_i i j q hs'
        split at h
        · rename_i hc; injection h with h; subst h
          simp only [back]
          rw [if_pos ⟨trivial, trivial⟩, if_pos hc]
          rw [strip_iff.1 hs', hk.1, hk.2]
        · cases h
      · cases h
    · cases h
  | cs m o => cases hs
theorem back_to {g : Grp} {l x : Lab} (h : g.back x = some l) : g.to l = some x := by
  obtain ⟨a, b, p0⟩ := x
  cases g with
  | cm r o n j =>
    simp only [back] at h; split at h
    · rename_i hc; injection h with h; subst h
      simp only [to]
      rw [if_pos ⟨trivial, by omega, by omega⟩, show o + b - o = b by omega, hc.1]
    · cases h
  | ce r o p i oo n j =>
    simp only [back] at h; split at h
    · rename_i hc; injection h with h; subst h
      simp only [to]
      have : strip p (p ++ (i, oo + b) :: p0) = some ((i, oo + b) :: p0) := strip_iff.2 rfl
      simp only [and_self, if_true, this, true_and]
      rw [if_pos ⟨by omega, by omega⟩, show oo + b - oo = b by omega, hc.1]
    · cases h
  | ch l0 m o n =>
    simp only [back] at h; split at h
    · rename_i hk
      split at h
      · rename_i i j q
        split at h
        · rename_i hc; injection h with h; subst h
          simp only [to]
          have : strip l0.2.2 (l0.2.2 ++ (i, j) :: q) = some ((i, j) :: q) := strip_iff.2 rfl
          simp only [and_self, if_true, this]
          rw [if_pos hc, hk.1, hk.2]
        · cases h
      · cases h
    · cases h
  | cs m o => cases h
theorem to_inj {g : Grp} {l l' x : Lab} (h : g.to l = some x) (h' : g.to l' = some x) : l = l' := by
  cases hs : g.isS with
  | false =>
    have a := to_back h hs
    have b := to_back h' hs
    rw [a] at b; injection b
  | true =>
    cases g <;> simp [isS] at hs
    rename_i m o
    obtain ⟨a, b, c⟩ := l; obtain ⟨a', b', c'⟩ := l'
    simp only [to] at h h'
    split at h
    · split at h'
      · rename_i h1 h2
        injection h with h; subst h
        simp only [Option.some.injEq, Prod.mk.injEq, true_and] at h'
        rw [h1.1, h1.2.1, h2.1, h2.2.1, h']
      · cases h'
    · cases h
def sepB (g g' : Grp) : Bool := (!(g.r == g'.r) || decide (g.hi ≤ g'.lo) || decide (g'.hi ≤ g.lo)) && (!(g.d == g'.d) || decide (g.dhi ≤ g'.dlo) || decide (g'.dhi ≤ g.dlo))
theorem sepB_src {g g' : Grp} (h : sepB g g' = true) {l x y : Lab} (h1 : g.to l = some x) (h2 : g'.to l = some y) : False := by
  obtain ⟨a1, a2, a3⟩ := to_src h1
  obtain ⟨b1, b2, b3⟩ := to_src h2
  simp only [sepB, Bool.and_eq_true, Bool.or_eq_true, Bool.not_eq_true', beq_eq_false_iff_ne, decide_eq_true_eq] at h
  rcases h.1 with (h | h) | h <;> omega
theorem sepB_dst {g g' : Grp} (h : sepB g g' = true) {l l' x : Lab} (h1 : g.to l = some x) (h2 : g'.to l' = some x) : False := by
  obtain ⟨a1, a2, a3⟩ := to_dst h1
  obtain ⟨b1, b2, b3⟩ := to_dst h2
  simp only [sepB, Bool.and_eq_true, Bool.or_eq_true, Bool.not_eq_true', beq_eq_false_iff_ne, decide_eq_true_eq] at h
  rcases h.2 with (h | h) | h <;> omega
/-- Does the group touch the key? -/
def cov (g : Grp) (k : Key) : Bool := g.r == k.1 && decide (g.lo ≤ k.2) && decide (k.2 < g.hi)
theorem to_cov {g : Grp} {l x : Lab} (h : g.to l = some x) : g.cov (l.1, l.2.1) = true := by
  obtain ⟨a1, a2, a3⟩ := to_src h
  simp [cov, a1, a2, a3]
end Grp

def sepsB : List Grp → Bool
  | [] => true
  | g :: l => l.all (Grp.sepB g) && sepsB l
def gto : List Grp → Lab → Option Lab
  | [], _ => none
  | g :: l, x => match g.to x with | some y => some y | none => gto l x
def gback : List Grp → Lab → Option Lab
  | [], _ => none
  | g :: l, x => match g.back x with | some y => some y | none => gback l x
theorem gto_mem {gs : List Grp} {l x : Lab} (h : gto gs l = some x) : ∃ g ∈ gs, g.to l = some x := by
  induction gs with
  | nil => cases h
  | cons g l ih =>
    simp only [gto] at h
    split at h
    · rename_i y hy; injection h with h; subst h; exact ⟨g, by simp, hy⟩
    · obtain ⟨g', h1, h2⟩ := ih h; exact ⟨g', by simp [h1], h2⟩
theorem gback_mem {gs : List Grp} {l x : Lab} (h : gback gs x = some l) : ∃ g ∈ gs, g.back x = some l := by
  induction gs with
  | nil => cases h
  | cons g l ih =>
    simp only [gback] at h
    split at h
    · rename_i y hy; injection h with h; subst h; exact ⟨g, by simp, hy⟩
    · obtain ⟨g', h1, h2⟩ := ih h; exact ⟨g', by simp [h1], h2⟩
theorem gto_of {gs : List Grp} (hs : sepsB gs = true) {g : Grp} (hg : g ∈ gs) {l x : Lab} (h : g.to l = some x) : gto gs l = some x := by
  induction gs with
  | nil => cases hg
  | cons g0 l0 ih =>
    simp only [sepsB, Bool.and_eq_true, List.all_eq_true] at hs
    simp only [gto]
    rcases List.mem_cons.1 hg with rfl | hg
    · rw [h]
    · cases h0 : g0.to l with
      | none => exact ih hs.2 hg
      | some y => exact (Grp.sepB_src (hs.1 g hg) h0 h).elim
theorem gto_inj {gs : List Grp} (hs : sepsB gs = true) {l l' x : Lab} (h : gto gs l = some x) (h' : gto gs l' = some x) : l = l' := by
  induction gs with
  | nil => cases h
  | cons g0 l0 ih =>
    simp only [sepsB, Bool.and_eq_true, List.all_eq_true] at hs
    simp only [gto] at h h'
    split at h
    · rename_i y hy
      injection h with h; subst h
      split at h'
      · rename_i z hz; injection h' with h'; subst h'; exact Grp.to_inj hy hz
      · obtain ⟨g', h1, h2⟩ := gto_mem h'
        exact (Grp.sepB_dst (hs.1 g' h1) hy h2).elim
    · split at h'
      · rename_i z hz
        injection h' with h'; subst h'
        obtain ⟨g', h1, h2⟩ := gto_mem h
        exact (Grp.sepB_dst (hs.1 g' h1) hz h2).elim
      · exact ih hs.2 h h'
theorem gback_of {gs : List Grp} (hs : sepsB gs = true) {g : Grp} (hg : g ∈ gs) {l x : Lab} (h : g.back x = some l) : gback gs x = some l := by
  induction gs with
  | nil => cases hg
  | cons g0 l0 ih =>
    simp only [sepsB, Bool.and_eq_true, List.all_eq_true] at hs
    simp only [gback]
    rcases List.mem_cons.1 hg with rfl | hg
    · rw [h]
    · cases h0 : g0.back x with
      | none => exact ih hs.2 hg
      | some y => exact (Grp.sepB_dst (hs.1 g hg) (Grp.back_to h0) (Grp.back_to h)).elim

def enc (t : Nat) (l : Lab) : Lab := (t, l.1, (l.2.1, 0) :: l.2.2)
def kap (gs : List Grp) (ks : List Key) (l : Lab) : Lab := match gto gs l with
  | some x => x
  | none => if l.1 = 20002 ∨ (l.1, l.2.1) ∈ ks then enc 20002 l else enc 20001 l
def gin (gs : List Grp) (ks : List Key) (g : Ghost) : Ghost := fun b k => (g b k).map (kap gs ks)
theorem gin_none {gs : List Grp} {ks : List Key} {b k : Nat} : gin gs ks g b k = none ↔ g b k = none := by simp [gin]
theorem gin_some {gs : List Grp} {ks : List Key} {b k : Nat} {l : Lab} (h : gin gs ks g b k = some l) : ∃ l0, g b k = some l0 ∧ (gto gs l0 = some l ∨ (gto gs l0 = none ∧ ((l = enc 20002 l0 ∧ (l0.1 = 20002 ∨ (l0.1, l0.2.1) ∈ ks)) ∨ l = enc 20001 l0))) := by
  simp only [gin, Option.map_eq_some_iff] at h
  obtain ⟨l0, h1, h2⟩ := h
  refine ⟨l0, h1, ?_⟩
  unfold kap at h2
  split at h2
  · rename_i x hx; subst h2; exact .inl hx
  · rename_i hx
    split at h2
    · rename_i hc; exact .inr ⟨hx, .inl ⟨h2.symm, hc⟩⟩
    · exact .inr ⟨hx, .inr h2.symm⟩
theorem gin_of {gs : List Grp} {ks : List Key} {b k : Nat} {l x : Lab} (h : g b k = some l) (h2 : gto gs l = some x) : gin gs ks g b k = some x := by simp [gin, h, kap, h2]
theorem gin_out {gs : List Grp} {ks : List Key} {b k : Nat} {l : Lab} (h : g b k = some l) (h2 : gto gs l = none) : gin gs ks g b k = some (enc 20002 l) ∧ (l.1 = 20002 ∨ (l.1, l.2.1) ∈ ks) ∨ gin gs ks g b k = some (enc 20001 l) := by
  simp only [gin, h, Option.map_some, kap, h2]
  split
  · rename_i hc; exact .inl ⟨rfl, hc⟩
  · exact .inr rfl
theorem gin_ro {gs : List Grp} {ks : List Key} {b k : Nat} {l : Lab} (h : g b k = some l) (h2 : gto gs l = none) (h3 : l.1 = 20002 ∨ (l.1, l.2.1) ∈ ks) : gin gs ks g b k = some (enc 20002 l) := by
  simp only [gin, h, Option.map_some, kap, h2, if_pos h3]
/-- Groups lead below the roots of the caller's. -/
def dstB (gs : List Grp) : Bool := gs.all fun g => decide (g.d < 19000)
theorem gto_dst {gs : List Grp} (hd : dstB gs = true) {l x : Lab} (h : gto gs l = some x) : x.1 < 19000 := by
  obtain ⟨g, h1, h2⟩ := gto_mem h
  simp only [dstB, List.all_eq_true, decide_eq_true_eq] at hd
  have := hd g h1
  have := (Grp.to_dst h2).1
  omega
theorem enc_inj {t t' : Nat} {l l' : Lab} (h : enc t l = enc t' l') : l = l' := by
  obtain ⟨a, b, c⟩ := l; obtain ⟨a', b', c'⟩ := l'
  simp only [enc, Prod.mk.injEq, List.cons.injEq, and_true] at h
  obtain ⟨_, h1, h2, h3⟩ := h
  rw [h1, h2, h3]
theorem gin_inj {gs : List Grp} {ks : List Key} (hs : sepsB gs = true) (hd : dstB gs = true) (hj : ∀ b k b' k' l, g b k = some l → g b' k' = some l → b = b' ∧ k = k') :
    ∀ b k b' k' l, gin gs ks g b k = some l → gin gs ks g b' k' = some l → b = b' ∧ k = k' := by
  intro b k b' k' l h h'
  obtain ⟨l0, a1, a2⟩ := gin_some h
  obtain ⟨l1, b1, b2⟩ := gin_some h'
  have hsp : ∀ {l0 l : Lab}, (gto gs l0 = none ∧ ((l = enc 20002 l0 ∧ (l0.1 = 20002 ∨ (l0.1, l0.2.1) ∈ ks)) ∨ l = enc 20001 l0)) → 20001 ≤ l.1 := by
    rintro l0 l ⟨_, ⟨rfl, _⟩ | rfl⟩ <;> simp [enc]
  have : l0 = l1 := by
    rcases a2 with a2 | a2 <;> rcases b2 with b2 | b2
    · exact gto_inj hs a2 b2
    · have := hsp b2; have := gto_dst hd a2; omega
    · have := hsp a2; have := gto_dst hd b2; omega
    · rcases a2.2 with ⟨e, _⟩ | e <;> rcases b2.2 with ⟨e', _⟩ | e'
      · exact enc_inj (e.symm.trans e')
      · rw [e] at e'; simp [enc] at e'
      · rw [e] at e'; simp [enc] at e'
      · exact enc_inj (e.symm.trans e')
  subst this
  exact hj _ _ _ _ _ a1 b1
end Go.Eng

namespace Go.Eng
variable {P : Program} {N : Nat} {w0 : World} {g0 : Ghost} {ar tm : Array Value} {S S' : St} {w w' : World} {g g' : Ghost} {o : Oper} {a : Act} {c : Prop}

structure CIn where
  a : A
  gs : List Grp
  ks : List Key
  mem : List Row
  hid : List (Nat × Row)
  c : Prop

/-- A cell that is handed over to be read. -/
def roC : Cl → Cl
  | .vw _ _ (.sl _ sz rows) => .vw none [] (.sl .ow sz rows)
  | .vw _ _ (.lit v) => .ow (.lit v)
  | .vw _ _ .bad => .ow .bad
  | .ow (.sl .fro sz rows) => .vw none [] (.sl .ow sz rows)
  | c => c
theorem ShR.md {L : Option Lab → Prop} {g : Ghost} {w : World} {a b : Md} {sz : Nat} {rows : List Row} {v : Value} (h : ShR L g w (.sl a sz rows) v) : ShR L g w (.sl b sz rows) v := by
  cases h with
  | emp _ _ A c => exact .emp _ _ _ _
  | sl _ _ b off cap _ arr e fr hb hl hg hs hn hle hc => exact .sl _ _ b off cap _ arr e fr hb hl hg hs hn hle hc
def sGrps (m : Nat) : Nat → List Cl → List Grp
  | _, [] => []
  | o, c :: l => if ownC c then .cs m o :: sGrps m (o + 1) l else sGrps m (o + 1) l
/-- A value whose slices are lent: what the callee sees, what lies behind, the labels. -/
def lnRow (S : St) (m : Nat) : Nat → List Cl → Option (List Cl × Row × List Grp × List Key)
  | _, [] => some ([], [], [], [])
  | o, c :: l => match lnRow S m (o + 1) l with
    | none => none
    | some (cs, ts, gs, ks) => match c with
      | .ow (.lit v) => some (.ow (.lit v) :: cs, .lit v :: ts, gs, ks)
      | .vw (some (pl, lo)) ks0 (.sl _ sz rows) => (match (treeAt (S.get pl.1) pl.2.1).bind (ndT pl.2.2) with
        | some (.sl md2 sz2 rows2) => if md2 ≠ .fro ∧ sz2 = sz ∧ rows2.length = rows.length ∧ lo = 0 ∧ pl.1 < 19000 then
            some (.vw (some ((16000 + m, o, []), 0)) [(16000 + m, o)] (.sl .el sz rows2) :: cs, .sl .el sz rows2 :: ts, .ch pl m o rows2.length :: gs, ks0 ++ ks) else none
        | _ => none)
      | _ => none

def argIn (S : St) (m j : Nat) : Arg → Option (Bool × List Cl) → Option CIn
  | .mv _, some (agg, row) => some ⟨.val agg row, sGrps m 0 row, [], [], [], True⟩
  | .mv _, none => none
  | .rd x, _ => match x.ev S.get with
    | .fn f ks rows => some ⟨.fn f [] rows, [], ks, [], [], keyB S.k ks = true⟩
    | _ => (match vrow x S.get with
      | some (agg, row) => some ⟨.val agg (row.map roC), [], rowKs row, [], [], keyB S.k (rowKs row) = true⟩
      | none => none)
  | .rp x n, _ => match x.ev S.get with
    | .pe pl ks row => some ⟨.pe none [] (row.take n), [], ks, [], [], keyB S.k ks = true ∧ n ≤ row.length⟩
    | .pr r o => (match S.get r with
      | .mem R => some ⟨.pe none [] (((R.drop o).take n).map Cl.tree), [], ((List.range' o n).map fun j => (r, j)) ++ rowKs ((R.drop o).take n), [], [], 0 < n ∧ o + n ≤ R.length ∧ keyB S.k (rowKs ((R.drop o).take n)) = true⟩
      | _ => none)
    | _ => none
  | .pt x n, _ => match x.ev S.get with
    | .pr r o => (match S.get r with
      | .mem R => (match rowT ((R.drop o).take n) with
        | some ts => if r < 19000 then some ⟨.pr (15000 + j) 0, [.cm r o n j], [], [ts], [], 0 < n ∧ o + n ≤ R.length⟩ else none
        | none => none)
      | _ => none)
    | .pe (some (r, o, p, i, oo)) ks row0 => (match (treeAt (S.get r) o).bind (ndT p) with
      | some (.sl md sz rows) => if r < 19000 ∧ md ≠ .fro then some ⟨.pr (15000 + j) 0, [.ce r o p i oo n j], [], [((rows.getD i []).drop oo).take n], [], 0 < n ∧ i < rows.length ∧ oo + n ≤ sz ∧ keyB S.k ks = true ∧ n ≤ row0.length⟩ else none
      | _ => none)
    | _ => none
  | .ln x, _ => match vrow x S.get with
    | some (agg, row) => (match lnRow S m 0 row with
      | some (cs, ts, gs, ks) => some ⟨.al m agg, gs, [], [], [(m, ts)], keyB S.k ks = true⟩
      | none => none)
    | none => none

def rokB (gs : List Grp) : Bool := gs.all fun g => decide (g.r ≤ 19000)
structure GOk (gs : List Grp) (ks : List Key) : Prop where
  sep : sepsB gs = true
  dst : dstB gs = true
  rok : rokB gs = true
  far : ∀ k ∈ ks, ∀ g ∈ gs, g.cov k = false

variable {gs : List Grp} {ks : List Key}
theorem GOk.off (h : GOk gs ks) {l : Lab} (hl : l.1 = 20002 ∨ (l.1, l.2.1) ∈ ks) : gto gs l = none := by
  cases hg : gto gs l with
  | none => rfl
  | some x =>
    obtain ⟨y, h1, h2⟩ := gto_mem hg
    exfalso
    rcases hl with hl | hl
    · have := (List.all_eq_true.1 h.rok) y h1
      have h3 := (Grp.to_src h2).1
      simp only [decide_eq_true_eq] at this
      omega
    · have := h.far _ hl y h1
      rw [Grp.to_cov h2] at this; cases this
theorem GOk.lp (h : GOk gs ks) {ks' : List Key} (hk : ∀ k ∈ ks', k ∈ ks) {b k : Nat} (hl : LP ks' (g b k)) : LP [] (gin gs ks g b k) := by
  rcases hl with hl | ⟨x, h1, h2⟩
  · exact .inl (gin_none.2 hl)
  · have h3 : x.1 = 20002 ∨ (x.1, x.2.1) ∈ ks := by
      rcases h2 with h2 | h2
      · exact .inl h2
      · exact .inr (hk _ h2)
    exact .inr ⟨_, gin_ro h1 (h.off h3) h3, .inl rfl⟩
theorem GOk.sh (h : GOk gs ks) {ks' : List Key} (hk : ∀ k ∈ ks', k ∈ ks) {t : T} {v : Value} (hs : ShR (LP ks') g w t v) : ShR (LP []) (gin gs ks g) w t v :=
  hs.map (Step.refl (fun _ _ => False) w) fun b k _ hl => ⟨fun h => h, h.lp hk hl⟩
theorem gin_else {r o r' o' : Nat} {p p' : Path} {t : T} {v : Value} (h : TR g w r o p t v) (hp : ownC (.ow t) = false) : TR (gin gs ks g) w r' o' p' t v :=
  h.elsewhere (Step.refl (fun _ _ => False) w) (fun b k _ hn => ⟨fun h => h, gin_none.2 hn⟩) hp
/-- An owned tree, where a group leads. -/
theorem GOk.tr (h : GOk gs ks) {r o r' o' : Nat} {p p' : Path} {t : T} {v : Value} (ht : TR g w r o p t v) {y : Grp} (hy : y ∈ gs) (hto : ∀ q, q ≠ [] → y.to (r, o, p ++ q) = some (r', o', p' ++ q)) : TR (gin gs ks g) w r' o' p' t v :=
  ht.map (Step.refl (fun _ _ => False) w) (fun b k _ hn => ⟨fun h => h, gin_none.2 hn⟩) p' fun b k q _ hq hg => ⟨fun h => h, gin_of hg (gto_of h.sep hy (hto q hq))⟩

theorem sGrps_mem {m : Nat} {row : List Cl} {s o : Nat} {c : Cl} (h : row[o]? = some c) (hc : ownC c = true) : Grp.cs m (s + o) ∈ sGrps m s row := by
  induction row generalizing s o with
  | nil => simp at h
  | cons x l ih =>
    simp only [sGrps]
    cases o with
    | zero => simp at h; subst h; rw [if_pos hc]; simp
    | succ o =>
      have := ih (s := s + 1) (o := o) (by simpa using h)
      rw [show s + 1 + o = s + (o + 1) by omega] at this
      split
      · exact List.mem_cons_of_mem _ this
      · exact this

/-- A tree, its own room left out. -/
theorem TR.el {r o : Nat} {p : Path} {md : Md} {sz : Nat} {rows : List Row} {v : Value} (h : TR g w r o p (.sl md sz rows) v) (hm : md ≠ .fro) : TR g w r o p (.sl .el sz rows) v := by
  cases h with
  | fro => exact absurd rfl hm
  | nil _ _ _ A c => exact .nil _ _ _ _ _ (by simp) (by simp)
  | own _ _ _ b off cap _ arr e _ hb hl hs hle h0 hn hlab hc =>
    have hbd := bnd_ge (md := md) hle
    have h1 : rows.length * sz ≤ bnd md cap rows.length * sz := Nat.mul_le_mul_right _ hbd
    exact .own _ _ rows b off cap sz arr e (by simp) hb hl (by rw [bnd_el]; omega) hle h0 hn (fun i o' hi ho => hlab i o' (by rw [bnd_el] at hi; omega) ho) hc

/-- A view's slice is the one of its place, if it begins there. -/
theorem place_el (h : Rel N w0 g0 ar S tm w g) {pl : Lab} {t0 : T} {md md2 : Md} {sz : Nat} {rows rows2 : List Row} {v : Value} (ht0 : treeAt (S.get pl.1) pl.2.1 = some t0) (hnd : ndT pl.2.2 t0 = some (.sl md2 sz rows2)) (hm : md2 ≠ .fro)
    (hlen : rows2.length = rows.length) (hhd : HdR (.sl md sz rows) v) (hpl : PlR g w pl 0 (.sl md sz rows) v) : TR g w pl.1 pl.2.1 pl.2.2 (.sl .el sz rows2) v := by
  obtain ⟨x, k1, _⟩ := VarR.node (h.vars pl.1) ht0
  obtain ⟨v1, z1, _⟩ := TR.zip pl.2.2 [] t0 _ x k1 hnd
  rw [List.nil_append] at z1
  obtain ⟨a, c, rfl, hc, hn, hpos⟩ := hhd
  rcases Nat.eq_zero_or_pos rows.length with h0 | h0
  · have : rows2 = [] := List.eq_nil_of_length_eq_zero (by omega)
    subst this
    rw [h0]
    exact .nil _ _ _ _ _ (by simp) (by simp)
  · have hbd := bnd_ge (md := md) hc
    obtain ⟨b, off, arr, e, rfl, hsz, hb, hs, hlab⟩ := hpl a _ c rfl (by omega)
    cases z1 with
    | fro => exact absurd rfl hm
    | nil => simp at hlen; omega
    | own _ _ _ b0 off0 cap0 _ arr0 e0 _ hb0 hl0 hs0 hle0 h00 hn0 hlab0 hc0 =>
      have hbd0 := bnd_ge (md := md2) hle0
      have l1 := hlab 0 0 (by omega) hsz
      have l2 := hlab0 0 0 (by omega) hsz
      simp only [Nat.zero_add] at l1
      obtain ⟨rfl, e2⟩ := h.inj _ _ _ _ _ l1 l2
      have e2 : off = off0 := by omega
      subst e2
      have h1 : rows2.length * sz ≤ bnd md2 cap0 rows2.length * sz := Nat.mul_le_mul_right _ hbd0
      rw [← hlen]
      exact .own _ _ rows2 b off c sz arr0 e0 (by simp) hb0 hl0 (by rw [bnd_el]; omega) (by omega) hsz hn0 (fun i o' hi ho => hlab0 i o' (by rw [bnd_el] at hi; omega) ho) hc0

theorem lnRow_sound (h : Rel N w0 g0 ar S tm w g) (hG : GOk gs ks) {m : Nat} (vs : Nat → Value) : ∀ (l : List Cl) (o : Nat) (cs : List Cl) (ts : Row) (gs' : List Grp) (ks' : List Key), (∀ j c, l[j]? = some c → ClR S.k g w 0 (o + j) c (vs (o + j))) →
    lnRow S m o l = some (cs, ts, gs', ks') → (∀ y ∈ gs', y ∈ gs) → Vd S.k ks' → cs.length = l.length ∧ ts.length = l.length ∧ (∀ j t, ts[j]? = some t → TR (gin gs ks g) w (16000 + m) (o + j) [] t (vs (o + j))) ∧
      (∀ j c, cs[j]? = some c → ClR [] (gin gs ks g) w m (o + j) c (vs (o + j))) := by
  intro l
  induction l with
  | nil =>
    intro o cs ts gs' ks' _ he _ _
    simp only [lnRow, Option.some.injEq, Prod.mk.injEq] at he
    obtain ⟨rfl, rfl, rfl, rfl⟩ := he
    exact ⟨rfl, rfl, by simp, by simp⟩
  | cons c l ih =>
    intro o cs ts gs' ks' hcl he hgs hvd
    simp only [lnRow] at he
    split at he
    · cases he
    · rename_i cs1 ts1 gs1 ks1 h1
      have hrec : (∀ y ∈ gs1, y ∈ gs) → Vd S.k ks1 → _ := ih (o + 1) cs1 ts1 gs1 ks1 (fun j c hj => by
        have := hcl (j + 1) c (by simpa using hj)
        rwa [show o + (j + 1) = o + 1 + j by omega] at this) h1
      have h0 := hcl 0 c rfl
      rw [Nat.add_zero] at h0
      split at he
      · rename_i lv
        simp only [Option.some.injEq, Prod.mk.injEq] at he
        obtain ⟨rfl, rfl, rfl, rfl⟩ := he
        obtain ⟨q1, q2, q3, q4⟩ := hrec hgs hvd
        refine ⟨by simp [q1], by simp [q2], fun j t hj => ?_, fun j c hj => ?_⟩
        · cases j with
          | zero => simp at hj; subst hj; exact gin_else h0 rfl
          | succ j => have := q3 j t (by simpa using hj); rwa [show o + 1 + j = o + (j + 1) by omega] at this
        · cases j with
          | zero => simp at hj; subst hj; exact gin_else h0 rfl
          | succ j => have := q4 j c (by simpa using hj); rwa [show o + 1 + j = o + (j + 1) by omega] at this
      · rename_i pl lo ks0 md sz rows
        split at he
        · rename_i md2 sz2 rows2 hnd
          split at he
          · rename_i hc
            obtain ⟨hm, rfl, hlen, rfl, hlt⟩ := hc
            simp only [Option.some.injEq, Prod.mk.injEq] at he
            obtain ⟨rfl, rfl, rfl, rfl⟩ := he
            obtain ⟨q1, q2, q3, q4⟩ := hrec (fun y hy => hgs y (by simp [hy])) (fun k hk => hvd k (by simp [hk]))
            simp only [Option.bind_eq_some_iff] at hnd
            obtain ⟨t0, ht0, hnd⟩ := hnd
            obtain ⟨c1, c2⟩ := h0
            obtain ⟨c3, c4⟩ := c2 (fun k hk => hvd k (by simp [hk]))
            have hel := place_el h ht0 hnd hm hlen c1 (c4 pl 0 rfl).2
            have htr : TR (gin gs ks g) w (16000 + m) o [] (.sl .el sz2 rows2) (vs o) := by
              -- only the rows that there are
              generalize vs o = v0 at hel
              have hto : ∀ i j q, i < rows2.length → gto gs (pl.1, pl.2.1, pl.2.2 ++ (i, j) :: q) = some (16000 + m, o, (i, j) :: q) := fun i j q hi => by
                refine gto_of hG.sep (hgs (.ch pl m o rows2.length) (by simp)) ?_
                simp only [Grp.to, and_self, if_true]
                have : strip pl.2.2 (pl.2.2 ++ (i, j) :: q) = some ((i, j) :: q) := strip_iff.2 rfl
                simp only [this]
                rw [if_pos hi]
              cases hel with
              | nil _ _ _ A c => exact .nil _ _ _ _ _ (by simp) (by simp)
              | own _ _ _ b off cap _ arr e _ hb hl hs hle h0 hn hlab hc =>
                refine .own _ _ rows2 b off cap sz2 arr e (by simp) hb hl hs hle h0 hn (fun i o' hi ho => gin_of (hlab i o' hi ho) (hto i o' [] (by rw [bnd_el] at hi; exact hi))) fun i o' c hgc => ?_
                refine (hc i o' c hgc).map (Step.refl (fun _ _ => False) w) (fun b k _ hn => ⟨fun h => h, gin_none.2 hn⟩) _ fun b k q _ hq hg => ⟨fun h => h, ?_⟩
                rw [List.append_assoc] at hg
                exact gin_of hg (hto i o' q (get2_lt hgc hl).1)
            refine ⟨by simp [q1], by simp [q2], fun j t hj => ?_, fun j c hj => ?_⟩
            · cases j with
              | zero => simp at hj; subst hj; exact htr
              | succ j => have := q3 j t (by simpa using hj); rwa [show o + 1 + j = o + (j + 1) by omega] at this
            · cases j with
              | zero =>
                simp at hj; subst hj
                refine ⟨htr.hd, fun _ => ⟨htr.sh, fun l lo e => ?_⟩⟩
                injection e with e; injection e with e1 e2; subst e1; subst e2
                exact ⟨by simp, htr.pl (by simp)⟩
              | succ j => have := q4 j c (by simpa using hj); rwa [show o + 1 + j = o + (j + 1) by omega] at this
          · cases he
        · cases he
      · cases he
end Go.Eng

namespace Go.Eng
variable {P : Program} {N : Nat} {w0 : World} {g0 : Ghost} {ar tm : Array Value} {S S' : St} {w w' : World} {g g' : Ghost} {o : Oper} {a : Act} {c : Prop} {gs : List Grp} {ks : List Key}

theorem rowT_len {row : List Cl} {r : Row} (h : rowT row = some r) : r.length = row.length := by rw [rowT_get h]; simp

/-- Memory behind a pointer that is lent. -/
theorem lendMem (h : Rel N w0 g0 ar S tm w g) (hG : GOk gs ks) {r o n j b k : Nat} {R : List Cl} {ts : Row} (hS : S.get r = .mem R) (hgk : g b k = some (r, o, [])) (hts : rowT ((R.drop o).take n) = some ts) (hn : 0 < n) (hle : o + n ≤ R.length)
    (hgs : Grp.cm r o n j ∈ gs) (tm' ar' : Array Value) : gin gs ks g b k = some (15000 + j, 0, []) ∧ VarR [] (gin gs ks g) w tm' ar' (15000 + j) (.mem (ts.map .ow)) := by
  have hv := h.vars r
  rw [hS] at hv
  obtain ⟨b', k0, arr, e, hb, hsz, hcell⟩ := hv
  obtain ⟨l1, _⟩ := hcell o _ (List.getElem?_eq_getElem (show o < R.length by omega))
  obtain ⟨rfl, rfl⟩ := h.inj _ _ _ _ _ hgk l1
  have hto : ∀ x q, x < n → gto gs (r, o + x, q) = some (15000 + j, x, q) := fun x q hx => by
    refine gto_of hG.sep hgs ?_
    simp only [Grp.to]
    rw [if_pos ⟨trivial, by omega, by omega⟩, show o + x - o = x by omega]
  refine ⟨gin_of hgk (by have := hto 0 [] hn; simpa using this), b, k0 + o, arr, e, hb, ?_, fun x c hx => ?_⟩
  · have := rowT_len hts
    simp at this ⊢
    omega
  · simp only [List.getElem?_map, Option.map_eq_some_iff] at hx
    obtain ⟨t, ht, rfl⟩ := hx
    have hrow : ((R.drop o).take n)[x]? = some (.ow t) := by rw [rowT_get hts, List.getElem?_map, ht]; rfl
    obtain ⟨q1, q2⟩ := take_row hrow
    obtain ⟨l2, l3⟩ := hcell _ _ q1
    rw [show k0 + (o + x) = k0 + o + x by omega] at l2 l3
    refine ⟨gin_of l2 (hto x [] q2), ?_⟩
    exact hG.tr l3 hgs fun q _ => by
      simp only [Grp.to, List.nil_append]
      rw [if_pos ⟨trivial, by omega, by omega⟩, show o + x - o = x by omega]

/-- An element of a slice that is lent. -/
theorem lendEl (h : Rel N w0 g0 ar S tm w g) (hG : GOk gs ks) {r o i oo n j b k : Nat} {p : Path} {t0 : T} {md : Md} {sz : Nat} {rows : List Row} (ht0 : treeAt (S.get r) o = some t0) (hnd : ndT p t0 = some (.sl md sz rows)) (hm : md ≠ .fro)
    (hgk : ∀ x, x < n → g b (k + x) = some (r, o, p ++ [(i, oo + x)])) (hn : 0 < n) (hi : i < rows.length) (hle : oo + n ≤ sz) (hgs : Grp.ce r o p i oo n j ∈ gs) (tm' ar' : Array Value) :
    gin gs ks g b k = some (15000 + j, 0, []) ∧ VarR [] (gin gs ks g) w tm' ar' (15000 + j) (.mem ((((rows.getD i []).drop oo).take n).map .ow)) := by
  obtain ⟨x, k1, _⟩ := VarR.node (h.vars r) ht0
  obtain ⟨v1, z1, _⟩ := TR.zip p [] t0 _ x k1 hnd
  rw [List.nil_append] at z1
  have hto : ∀ x q, x < n → gto gs (r, o, p ++ (i, oo + x) :: q) = some (15000 + j, x, q) := fun x q hx => by
    refine gto_of hG.sep hgs ?_
    have : strip p (p ++ (i, oo + x) :: q) = some ((i, oo + x) :: q) := strip_iff.2 rfl
    simp only [Grp.to, and_self, if_true, this, true_and]
    rw [if_pos ⟨by omega, by omega⟩, show oo + x - oo = x by omega]
  refine ⟨gin_of (by have := hgk 0 hn; simpa using this) (by have := hto 0 [] hn; simpa using this), ?_⟩
  cases z1 with
  | fro => exact absurd rfl hm
  | nil => simp at hi
  | own _ _ _ b0 off cap _ arr e _ hb hl hs hle' h0 hnn hlab hc =>
    have hbd := bnd_ge (md := md) hle'
    have l1 := hgk 0 hn
    have l2 := hlab i oo (by omega) (by omega)
    obtain ⟨rfl, e2⟩ := h.inj _ _ _ _ _ l1 l2
    have e2 : k = off + i * sz + oo := by omega
    subst e2
    have hidx : i * sz + sz ≤ bnd md cap rows.length * sz := by
      have := Nat.mul_le_mul_right sz (show i + 1 ≤ bnd md cap rows.length by omega)
      rwa [Nat.add_mul, Nat.one_mul] at this
    have hrl : (rows.getD i []).length = sz := by rw [List.getD_eq_getElem?_getD, List.getElem?_eq_getElem hi]; exact hl _ (List.getElem_mem _)
    refine ⟨b, off + i * sz + oo, arr, e, hb, ?_, fun x c hx => ?_⟩
    · simp; omega
    · simp only [List.getElem?_map, Option.map_eq_some_iff] at hx
      obtain ⟨t, ht, rfl⟩ := hx
      obtain ⟨q1, q2⟩ := take_row ht
      refine ⟨gin_of (hgk x q2) (hto x [] q2), ?_⟩
      have hg2 : get2 rows i (oo + x) = some t := by
        unfold get2
        rw [List.getD_eq_getElem?_getD, List.getElem?_eq_getElem hi] at q1
        rw [List.getElem?_eq_getElem hi]; exact q1
      have := hc i (oo + x) t hg2
      rw [show off + i * sz + (oo + x) = off + i * sz + oo + x by omega] at this
      exact hG.tr this hgs fun q _ => by
        rw [List.append_assoc]
        have : strip p (p ++ ([(i, oo + x)] ++ q)) = some ((i, oo + x) :: q) := strip_iff.2 rfl
        simp only [Grp.to, and_self, if_true, this, true_and]
        rw [if_pos ⟨by omega, by omega⟩, show oo + x - oo = x by omega]; rfl

theorem rowKs_mem {row : List Cl} {pl : Option (Lab × Nat)} {ks : List Key} {t : T} (h : Cl.vw pl ks t ∈ row) {k : Key} (hk : k ∈ ks) : k ∈ rowKs row := List.mem_flatMap.2 ⟨_, h, hk⟩
theorem roC_rel (hG : GOk gs ks) {K : List Key} {r o r' o' : Nat} {c : Cl} {v : Value} (h : ClR K g w r o c v) (hp : ownC c = false) (hvd : Vd K (clKs c)) (hk : ∀ k ∈ clKs c, k ∈ ks) : ClR [] (gin gs ks g) w r' o' (roC c) v := by
  cases c with
  | ow t =>
    cases t with
    | sl md sz rows =>
      cases md with
      | fro =>
        have h' : TR g w r o [] (.sl .fro sz rows) v := h
        exact ⟨h'.hd, fun _ => ⟨(hG.sh (ks' := []) (by simp) (h'.frozen.mono fun l hl => LP.none hl)).md, by simp⟩⟩
      | _ => exact gin_else h hp
    | _ => exact gin_else h hp
  | vw pl ks' t =>
    have hsh := hG.sh hk (h.2 hvd).1
    cases t with
    | sl md sz rows => exact ⟨h.1, fun _ => ⟨hsh.md, by simp⟩⟩
    | lit x => cases hsh with | lit _ h1 => exact .lit _ _ h1
    | bad => exact .bad _ _ h.one

set_option maxHeartbeats 400000 in
theorem argIn_sound (h : Rel N w0 g0 ar S tm w g) (hG : GOk gs ks) {m j : Nat} {x : Arg} {pre : Option (Bool × List Cl)} {q : CIn} (he : argIn S m j x pre = some q) (hc : q.c)
    (hpre : ∀ agg row, pre = some (agg, row) → ValR S.k g w 19000 (1000 * m) agg row (x.opd.val tm) ∧ ∃ r, rowT row = some r) (hgs : ∀ y ∈ q.gs, y ∈ gs) (hks : ∀ k ∈ q.ks, k ∈ ks) (vs : Array Value) (hv : vs.getD m undef = x.opd.val tm) :
    VarR [] (gin gs ks g) w vs vs m q.a ∧ (∀ row ∈ q.mem, VarR [] (gin gs ks g) w vs vs (15000 + j) (.mem (row.map .ow))) ∧ q.mem.length ≤ 1 ∧ (∀ y ∈ q.hid, y.1 = m ∧ VarR [] (gin gs ks g) w vs vs (16000 + m) (.hid y.2)) := by
  cases x with
  | mv x =>
    cases pre with
    | none => simp [argIn] at he
    | some p =>
      obtain ⟨agg, row⟩ := p
      simp only [argIn] at he
      injection he with he; subst he
      obtain ⟨k1, r, k2⟩ := hpre agg row rfl
      have hv' : vs.getD m undef = x.val tm := hv
      refine ⟨?_, by simp, by simp, by simp⟩
      simp only [VarR, hv']
      obtain ⟨q1, q2⟩ := k1.cells
      refine ValR.of_cells k1.shape q1 fun oo c hcc => ?_
      rw [Nat.zero_add]
      have hcl := q2 oo c hcc
      have hrow := rowT_get k2
      cases c with
      | vw pl ks' t =>
        rw [hrow, List.getElem?_map] at hcc
        simp only [Option.map_eq_some_iff] at hcc
        obtain ⟨t', _, e⟩ := hcc; cases e
      | ow t =>
        cases hp : ownC (.ow t) with
        | false => exact gin_else hcl hp
        | true =>
          have := sGrps_mem (m := m) (s := 0) hcc hp
          rw [Nat.zero_add] at this
          refine hG.tr hcl (hgs _ this) fun s hs => ?_
          simp only [Grp.to, List.nil_append]
          rw [if_pos ⟨trivial, trivial, hs⟩]
  | rd x =>
    simp only [argIn] at he
    split at he
    · rename_i f ks' rows hx
      injection he with he; subst he
      refine ⟨?_, by simp, by simp, by simp⟩
      cases x with
      | k c => simp [Opd.ev] at hx
      | z c => simp [Opd.ev] at hx
      | t s =>
        have hs := h.vars s
        simp only [Opd.ev] at hx
        rw [hx] at hs
        obtain ⟨caps, c1, c2, c3⟩ := hs
        refine ⟨caps, by rw [hv]; exact c1, c2, fun i row hi => ?_⟩
        obtain ⟨b, k, e1, e2⟩ := c3 i row hi
        obtain ⟨arr, e, fr, m1, m2, m3, m4, m5⟩ := e2 (keyB_vd hc)
        exact ⟨b, k, e1, fun _ => ⟨arr, e, fr, m1, m2, fun j hj => hG.lp hks (m3 j hj), fun j t hj => hG.sh hks (m4 j t hj), by simp⟩⟩
    · split at he
      · rename_i agg row hr
        injection he with he; subst he
        refine ⟨?_, by simp, by simp, by simp⟩
        obtain ⟨k1, k2⟩ := vrow_rel h hr m 0
        have hv' : vs.getD m undef = x.val tm := hv
        simp only [VarR, hv']
        obtain ⟨q1, q2⟩ := k1.cells
        have hvd := keyB_vd hc
        refine ValR.of_cells ?_ (by simpa using q1) fun oo c hcc => ?_
        · rcases k1.shape with hh | ⟨h1, h2⟩
          · exact .inl hh
          · exact .inr ⟨h1, by simpa using h2⟩
        · simp only [List.getElem?_map, Option.map_eq_some_iff] at hcc
          obtain ⟨c0, hc0, rfl⟩ := hcc
          have hmem := List.mem_of_getElem? hc0
          refine roC_rel hG (q2 oo c0 hc0) (k2 c0 hmem) (fun k hk => ?_) (fun k hk => ?_)
          · exact hvd k (List.mem_flatMap.2 ⟨c0, hmem, hk⟩)
          · exact hks k (List.mem_flatMap.2 ⟨c0, hmem, hk⟩)
      · cases he
  | rp x n =>
    simp only [argIn] at he
    split at he
    · rename_i pl ks' row hx
      injection he with he; subst he
      obtain ⟨hc1, hc2⟩ := hc
      refine ⟨?_, by simp, by simp, by simp⟩
      cases x with
      | k c => simp [Opd.ev] at hx
      | z c => simp [Opd.ev] at hx
      | t s =>
        have hs := h.vars s
        simp only [Opd.ev] at hx
        rw [hx] at hs
        obtain ⟨b, k, e1, e2⟩ := hs
        obtain ⟨arr, e, fr, m1, m2, m3, m4, m5⟩ := e2 (keyB_vd hc1)
        exact ⟨b, k, by rw [hv]; exact e1, fun _ => ⟨arr, e, fr, m1, by simp; omega, fun j hj => hG.lp hks (m3 j (by simp at hj; omega)), fun j t hj => hG.sh hks (m4 j t (by rw [List.getElem?_take] at hj; split at hj <;> simp_all)), by simp⟩⟩
    · rename_i r oo hx
      split at he
      · rename_i R hR
        injection he with he; subst he
        obtain ⟨hn, hle, hc2⟩ := hc
        refine ⟨?_, by simp, by simp, by simp⟩
        cases x with
        | k c => simp [Opd.ev] at hx
        | z c => simp [Opd.ev] at hx
        | t s =>
          have hs := h.vars s
          simp only [Opd.ev] at hx
          rw [hx] at hs
          obtain ⟨b, k, e1, hgk⟩ := hs
          have hvr := h.vars r
          rw [hR] at hvr
          obtain ⟨b', k0, arr, e, hb, hsz, hcell⟩ := hvr
          obtain ⟨l1, _⟩ := hcell oo _ (List.getElem?_eq_getElem (show oo < R.length by omega))
          obtain ⟨rfl, rfl⟩ := h.inj _ _ _ _ _ hgk l1
          have hvd := keyB_vd hc2
          have hkr : ∀ x, x < n → (r, oo + x) ∈ ks := fun x hx => hks _ (List.mem_append_left _ (List.mem_map.2 ⟨oo + x, by rw [List.mem_range'_1]; omega, rfl⟩))
          refine ⟨b, k0 + oo, by rw [hv]; exact e1, fun _ => ⟨arr, e, _, hb, by simp; omega, fun x hx => ?_, fun x t hx => ?_, by simp⟩⟩
          · simp at hx
            obtain ⟨l2, _⟩ := hcell (oo + x) _ (List.getElem?_eq_getElem (show oo + x < R.length by omega))
            rw [← Nat.add_assoc] at l2
            exact hG.lp (ks' := [(r, oo + x)]) (fun k hk => by simp at hk; subst hk; exact hkr x (by omega)) (.inr ⟨_, l2, .inr (by simp)⟩)
          · simp only [List.getElem?_map, Option.map_eq_some_iff] at hx
            obtain ⟨c0, hc0, rfl⟩ := hx
            have hmem := List.mem_of_getElem? hc0
            obtain ⟨q1, q2⟩ := take_row hc0
            obtain ⟨_, l3⟩ := hcell _ _ q1
            rw [← Nat.add_assoc] at l3
            cases c0 with
            | ow t => exact hG.sh (ks' := [(r, oo + x)]) (fun k hk => by simp at hk; subst hk; exact hkr x q2) (TR.sh l3)
            | vw pl ks' t => exact hG.sh (fun k hk => hks _ (List.mem_append_right _ (rowKs_mem hmem hk))) (l3.2 (fun k hk => hvd k (rowKs_mem hmem hk))).1
      · cases he
    · cases he
  | pt x n =>
    simp only [argIn] at he
    split at he
    · rename_i r oo hx
      split at he
      · rename_i R hR
        split at he
        · rename_i ts hts
          split at he
          · rename_i hr
            injection he with he; subst he
            obtain ⟨hn, hle⟩ := hc
            cases x with
            | k c => simp [Opd.ev] at hx
            | z c => simp [Opd.ev] at hx
            | t s =>
              have hs := h.vars s
              simp only [Opd.ev] at hx
              rw [hx] at hs
              obtain ⟨b, k, e1, hgk⟩ := hs
              obtain ⟨y1, y2⟩ := lendMem (j := j) h hG hR hgk hts hn hle (hgs _ (by simp)) vs vs
              exact ⟨⟨b, k, by rw [hv]; exact e1, y1⟩, by simpa using y2, by simp, by simp⟩
          · cases he
        · cases he
      · cases he
    · rename_i r oo p i o1 ks' row0 hx
      split at he
      · rename_i md sz rows hnd
        split at he
        · rename_i hr
          injection he with he; subst he
          obtain ⟨hn, hi, hle, hkb, hn0⟩ := hc
          simp only [Option.bind_eq_some_iff] at hnd
          obtain ⟨t0, ht0, hnd⟩ := hnd
          cases x with
          | k c => simp [Opd.ev] at hx
          | z c => simp [Opd.ev] at hx
          | t s =>
            have hs := h.vars s
            simp only [Opd.ev] at hx
            rw [hx] at hs
            obtain ⟨b, k, e1, e2⟩ := hs
            obtain ⟨arr, e, fr, m1, m2, m3, m4, m5⟩ := e2 (keyB_vd hkb)
            obtain ⟨n1, n2, n3⟩ := m5 _ _ _ _ _ rfl
            obtain ⟨y1, y2⟩ := lendEl (j := j) h hG ht0 hnd hr.2 (fun x hx => n3 x (by omega)) hn hi hle (hgs _ (by simp)) vs vs
            exact ⟨⟨b, k, by rw [hv]; exact e1, y1⟩, by simpa using y2, by simp, by simp⟩
        · cases he
      · cases he
    · cases he
  | ln x =>
    simp only [argIn] at he
    split at he
    · rename_i agg row hr
      split at he
      · rename_i cs ts gs' ks' hln
        injection he with he; subst he
        have hv' : vs.getD m undef = x.val tm := hv
        obtain ⟨k1, k2⟩ := vrow_rel h hr 0 0
        obtain ⟨q1, q2⟩ := k1.cells
        obtain ⟨y1, y2, y3, y4⟩ := lnRow_sound h hG (m := m) (fun j => (cellsV agg (x.val tm)).getD j undef) row 0 cs ts gs' ks' (fun j c hj => by simpa using q2 j c hj) hln hgs (keyB_vd hc)
        refine ⟨?_, by simp, by simp, fun y hy => ?_⟩
        · refine ⟨rfl, ?_⟩
          rw [hv']
          rcases k1.shape with hh | ⟨h1, h2⟩
          · exact .inl hh
          · refine .inr ⟨h1, ?_⟩
            match row, h2, k1, q2 with
            | [c], _, k1, q2 =>
              subst h1
              exact ClR.one (c := c) k1
        · simp at hy; subst hy
          refine ⟨rfl, ?_, fun oo t ht => ?_⟩
          · rw [show 16000 + m - 16000 = m by omega, hv', k1.vcells, y2]; exact q1
          · rw [show 16000 + m - 16000 = m by omega, hv', k1.vcells]
            have := y3 oo t ht
            rwa [Nat.zero_add] at this
      · cases he
    · cases he
end Go.Eng

namespace Go.Eng
variable {P : Program} {N : Nat} {w0 : World} {g0 : Ghost} {ar tm : Array Value} {S S' : St} {w w' : World} {g g' : Ghost} {o : Oper} {a : Act} {c : Prop} {gs : List Grp} {ks : List Key}

/-- What is handed over for good stands ready. -/
def stageMv : St → List Arg → Option (List (Option (Bool × List Cl)) × St)
  | S, [] => some ([], S)
  | S, .mv x :: l => match rsv S keepNone x with
    | some (agg, row, S1) => if row.length ≤ 1000 then (match rowT row with
      | some _ => (stageMv S1 l).map fun q => (some (agg, row) :: q.1, q.2)
      | none => none) else none
    | none => none
  | S, .rd _ :: l => (stageMv S l).map fun q => (none :: q.1, q.2)
  | S, .pt _ _ :: l => (stageMv S l).map fun q => (none :: q.1, q.2)
  | S, .rp _ _ :: l => (stageMv S l).map fun q => (none :: q.1, q.2)
  | S, .ln _ :: l => (stageMv S l).map fun q => (none :: q.1, q.2)

theorem ValR.kept {g1 : Ghost} {bad : Nat → Prop} (hk : Kept S S' g g1 w bad) {base : Nat} {agg : Bool} {row : List Cl} {v : Value} (h : ValR S.k g w 19000 base agg row v) (hb : ∀ o, o < row.length → ¬ bad (base + o)) : ValR S'.k g1 w 19000 base agg row v := by
  obtain ⟨q1, q2⟩ := h.cells
  exact ValR.of_cells h.shape q1 fun o c hc => hk.st _ _ _ (hb o (List.getElem?_eq_some_iff.1 hc).1) (q2 o c hc)

def preOk (S : St) (g : Ghost) (w : World) (tm : Array Value) (m : Nat) (l : List Arg) (pre : List (Option (Bool × List Cl))) : Prop :=
  ∀ i agg row, pre[i]? = some (some (agg, row)) → (∃ r, rowT row = some r) ∧ ∃ x, l[i]? = some x ∧ ValR S.k g w 19000 (1000 * (m + i)) agg row (x.opd.val tm)

theorem preOk.none {m : Nat} {x : Arg} {l : List Arg} {pre : List (Option (Bool × List Cl))} (h : preOk S g w tm (m + 1) l pre) : preOk S g w tm m (x :: l) (none :: pre) := fun i agg row hi => by
  cases i with
  | zero => simp at hi
  | succ i =>
    obtain ⟨q1, y, q2, q3⟩ := h i agg row (by simpa using hi)
    exact ⟨q1, y, by simpa using q2, by rwa [show m + (i + 1) = m + 1 + i by omega]⟩
theorem stageMv_sound : ∀ (l : List Arg) (m : Nat) (S S' : St) (g : Ghost) (pre : List (Option (Bool × List Cl))), Rel N w0 g0 ar S tm w g → stageMv S l = some (pre, S') →
    ∃ g', Rel N w0 g0 ar S' tm w g' ∧ preOk S' g' w tm m l pre ∧ Kept S S' g g' w (fun i => 1000 * m ≤ i) := by
  intro l
  induction l with
  | nil =>
    intro m S S' g pre h he
    simp only [stageMv, Option.some.injEq, Prod.mk.injEq] at he
    obtain ⟨rfl, rfl⟩ := he
    exact ⟨g, h, fun i agg row hi => by simp at hi, Kept.refl _ _ _ _⟩
  | cons x l ih =>
    intro m S S' g pre h he
    have hrest : ∀ q, stageMv S l = some q → (none :: q.1, q.2) = (pre, S') → ∃ g', Rel N w0 g0 ar S' tm w g' ∧ preOk S' g' w tm m (x :: l) pre ∧ Kept S S' g g' w (fun i => 1000 * m ≤ i) := by
      rintro ⟨p1, S1⟩ h1 h2
      simp only [Prod.mk.injEq] at h2
      obtain ⟨rfl, rfl⟩ := h2
      obtain ⟨g', k1, k2, k3⟩ := ih (m + 1) S _ g _ h h1
      exact ⟨g', k1, k2.none, k3.mono fun i hi => by omega⟩
    cases x with
    | mv x =>
      simp only [stageMv] at he
      split at he
      · rename_i agg row S1 hr
        split at he
        · rename_i hlen
          split at he
          · rename_i r hrt
            simp only [Option.map_eq_some_iff, Prod.mk.injEq] at he
            obtain ⟨⟨p1, S2⟩, h1, rfl, rfl⟩ := he
            obtain ⟨g1, k1, k2, k3⟩ := rsv_sound h hr (1000 * m)
            obtain ⟨g2, m1, m2, m3⟩ := ih (m + 1) S1 _ g1 _ k1 h1
            refine ⟨g2, m1, fun i agg' row' hi => ?_, (k3.trans m3).mono fun i hi => by rcases hi with hi | hi <;> omega⟩
            cases i with
            | zero =>
              simp at hi
              obtain ⟨rfl, rfl⟩ := hi
              exact ⟨⟨r, hrt⟩, .mv x, rfl, k2.kept m3 fun o ho => by omega⟩
            | succ i =>
              obtain ⟨q1, y, q2, q3⟩ := m2 i agg' row' (by simpa using hi)
              exact ⟨q1, y, by simpa using q2, by rwa [show m + (i + 1) = m + 1 + i by omega]⟩
          · cases he
        · cases he
      · cases he
    | rd x => simp only [stageMv, Option.map_eq_some_iff] at he; obtain ⟨q, h1, h2⟩ := he; exact hrest q h1 h2
    | pt x n => simp only [stageMv, Option.map_eq_some_iff] at he; obtain ⟨q, h1, h2⟩ := he; exact hrest q h1 h2
    | rp x n => simp only [stageMv, Option.map_eq_some_iff] at he; obtain ⟨q, h1, h2⟩ := he; exact hrest q h1 h2
    | ln x => simp only [stageMv, Option.map_eq_some_iff] at he; obtain ⟨q, h1, h2⟩ := he; exact hrest q h1 h2

def argsIn (S : St) : Nat → Nat → List Arg → List (Option (Bool × List Cl)) → Option (List CIn)
  | _, _, [], [] => some []
  | m, j, x :: l, p :: ps => match argIn S m j x p with
    | some q => (argsIn S (m + 1) (j + q.mem.length) l ps).map (q :: ·)
    | none => none
  | _, _, _, _ => none
def csC : List CIn → Prop
  | [] => True
  | q :: l => q.c ∧ csC l
def csA (l : List CIn) : List A := l.map (·.a)
def csG (l : List CIn) : List Grp := l.flatMap (·.gs)
def csK (l : List CIn) : List Key := l.flatMap (·.ks)
def csM (l : List CIn) : List Row := l.flatMap (·.mem)
def csH (l : List CIn) : List (Nat × Row) := l.flatMap (·.hid)

/-- A group leads to what the callee is told. -/
def fitsG (q : CIn) (m j : Nat) (y : Grp) : Prop := ∀ l x, y.to l = some x → (x.1 = m ∧ hasL q.a x.2.1 x.2.2 = true) ∨ (x.1 = 15000 + j ∧ ∃ row, q.mem = [row] ∧ x.2.1 < row.length) ∨ (x.1 = 16000 + m ∧ ∃ ts, q.hid = [(m, ts)] ∧ hasL (.hid ts) x.2.1 x.2.2 = true)

theorem sGrps_inv {m : Nat} {row : List Cl} {s : Nat} {y : Grp} (h : y ∈ sGrps m s row) : ∃ o c, row[o]? = some c ∧ ownC c = true ∧ y = .cs m (s + o) := by
  induction row generalizing s with
  | nil => simp [sGrps] at h
  | cons x l ih =>
    simp only [sGrps] at h
    split at h
    · rename_i hc
      rcases List.mem_cons.1 h with rfl | h
      · exact ⟨0, x, rfl, hc, rfl⟩
      · obtain ⟨o, c, h1, h2, h3⟩ := ih h
        exact ⟨o + 1, c, by simpa using h1, h2, by rw [h3, show s + 1 + o = s + (o + 1) by omega]⟩
    · obtain ⟨o, c, h1, h2, h3⟩ := ih h
      exact ⟨o + 1, c, by simpa using h1, h2, by rw [h3, show s + 1 + o = s + (o + 1) by omega]⟩
theorem lnRow_inv {m : Nat} : ∀ (l : List Cl) (o : Nat) (cs : List Cl) (ts : Row) (gs' : List Grp) (ks' : List Key), lnRow S m o l = some (cs, ts, gs', ks') → ∀ y ∈ gs', ∃ j pl sz rows, y = .ch pl m (o + j) rows.length ∧ ts[j]? = some (.sl .el sz rows) := by
  intro l
  induction l with
  | nil =>
    intro o cs ts gs' ks' he
    simp only [lnRow, Option.some.injEq, Prod.mk.injEq] at he
    obtain ⟨rfl, rfl, rfl, rfl⟩ := he
    simp
  | cons c l ih =>
    intro o cs ts gs' ks' he y hy
    simp only [lnRow] at he
    split at he
    · cases he
    · rename_i cs1 ts1 gs1 ks1 h1
      have hrec : ∀ t, y ∈ gs1 → ∃ j pl sz rows, y = .ch pl m (o + j) rows.length ∧ (t :: ts1 : Row)[j]? = some (.sl .el sz rows) := fun t hy => by
        obtain ⟨j, pl, sz, rows, q1, q2⟩ := ih (o + 1) _ _ _ _ h1 y hy
        exact ⟨j + 1, pl, sz, rows, by rw [q1, show o + 1 + j = o + (j + 1) by omega], by simpa using q2⟩
      split at he
      · simp only [Option.some.injEq, Prod.mk.injEq] at he
        obtain ⟨rfl, rfl, rfl, rfl⟩ := he
        exact hrec _ hy
      · split at he
        · split at he
          · simp only [Option.some.injEq, Prod.mk.injEq] at he
            obtain ⟨rfl, rfl, rfl, rfl⟩ := he
            rcases List.mem_cons.1 hy with rfl | hy
            · exact ⟨0, _, _, _, rfl, rfl⟩
            · exact hrec _ hy
          · cases he
        · cases he
      · cases he
/-- The rows of a slice that is owned are of its size. -/
theorem node_rows (h : Rel N w0 g0 ar S tm w g) {r o : Nat} {p : Path} {t0 : T} {md : Md} {sz : Nat} {rows : List Row} (ht0 : treeAt (S.get r) o = some t0) (hnd : ndT p t0 = some (.sl md sz rows)) (hm : md ≠ .fro) : ∀ r ∈ rows, r.length = sz := by
  obtain ⟨x, k1, _⟩ := VarR.node (h.vars r) ht0
  obtain ⟨v1, z1, _⟩ := TR.zip p [] t0 _ x k1 hnd
  rw [List.nil_append] at z1
  cases z1 with
  | fro => exact absurd rfl hm
  | nil => simp
  | own _ _ _ b0 off cap _ arr e _ hb hl => exact hl
theorem argIn_fits (h : Rel N w0 g0 ar S tm w g) {m j : Nat} {x : Arg} {pre : Option (Bool × List Cl)} {q : CIn} (he : argIn S m j x pre = some q) (hc : q.c) : ∀ y ∈ q.gs, fitsG q m j y := by
  cases x with
  | mv x =>
    cases pre with
    | none => simp [argIn] at he
    | some p =>
      obtain ⟨agg, row⟩ := p
      simp only [argIn] at he
      injection he with he; subst he
      intro y hy l x hto
      obtain ⟨oo, c, h1, h2, rfl⟩ := sGrps_inv hy
      left
      simp only [Grp.to] at hto
      split at hto
      · rename_i hc
        injection hto with hto; subst hto
        refine ⟨rfl, ?_⟩
        obtain ⟨l1, l2, p⟩ := l
        cases p with
        | nil => exact absurd rfl hc.2.2
        | cons z p => simp only [hasL, ownAt]; rw [Nat.zero_add, h1]; exact h2
      · cases hto
  | rd x =>
    simp only [argIn] at he
    repeat' split at he
    all_goals first | (injection he with he; subst he; simp) | cases he
  | rp x n =>
    simp only [argIn] at he
    repeat' split at he
    all_goals first | (injection he with he; subst he; simp) | cases he
  | pt x n =>
    simp only [argIn] at he
    split at he
    · split at he
      · split at he
        · rename_i ts hts
          split at he
          · injection he with he; subst he
            intro y hy l x hto
            simp at hy; subst hy
            simp only [Grp.to] at hto
            split at hto
            · rename_i hc1
              injection hto with hto; subst hto
              refine .inr (.inl ⟨rfl, _, rfl, ?_⟩)
              have := rowT_len hts
              obtain ⟨hc2, hc3⟩ := hc
              simp at this ⊢
              omega
            · cases hto
          · cases he
        · cases he
      · cases he
    · rename_i r oo p i0 o1 ks' row0 hx
      split at he
      · rename_i md sz rows hnd
        split at he
        · rename_i hr
          injection he with he; subst he
          obtain ⟨hn, hi, hle, hkb, hn0⟩ := hc
          simp only [Option.bind_eq_some_iff] at hnd
          obtain ⟨t0, ht0, hnd⟩ := hnd
          have hl := node_rows h ht0 hnd hr.2
          intro y hy l x hto
          simp at hy; subst hy
          simp only [Grp.to] at hto
          split at hto
          · split at hto
            · split at hto
              · rename_i hc1
                injection hto with hto; subst hto
                refine .inr (.inl ⟨rfl, _, rfl, ?_⟩)
                have hrl : (rows.getD i0 []).length = sz := by rw [List.getD_eq_getElem?_getD, List.getElem?_eq_getElem hi]; exact hl _ (List.getElem_mem _)
                simp only [List.length_take, List.length_drop, hrl]
                omega
              · cases hto
            · cases hto
          · cases hto
        · cases he
      · cases he
    · cases he
  | ln x =>
    simp only [argIn] at he
    split at he
    · split at he
      · rename_i cs ts gs' ks' hln
        injection he with he; subst he
        intro y hy l x hto
        obtain ⟨jj, pl, sz, rows, rfl, h2⟩ := lnRow_inv _ _ _ _ _ _ hln y hy
        refine .inr (.inr ?_)
        simp only [Grp.to] at hto
        split at hto
        · split at hto
          · split at hto
            · injection hto with hto; subst hto
              refine ⟨rfl, ts, rfl, ?_⟩
              simp only [hasL, ownAt]
              rw [Nat.zero_add, h2]; rfl
            · cases hto
          · cases hto
        · cases hto
      · cases he
    · cases he

theorem argsIn_sound (h : Rel N w0 g0 ar S tm w g) (hG : GOk gs ks) (vs : Array Value) : ∀ (l : List Arg) (m j : Nat) (pre : List (Option (Bool × List Cl))) (cs : List CIn), argsIn S m j l pre = some cs → csC cs → (∀ y ∈ csG cs, y ∈ gs) → (∀ k ∈ csK cs, k ∈ ks) →
    preOk S g w tm m l pre → (∀ i x, l[i]? = some x → vs.getD (m + i) undef = x.opd.val tm) →
    cs.length = l.length ∧ (∀ i q, cs[i]? = some q → VarR [] (gin gs ks g) w vs vs (m + i) q.a) ∧ (∀ i row, (csM cs)[i]? = some row → VarR [] (gin gs ks g) w vs vs (15000 + (j + i)) (.mem (row.map .ow))) ∧
    (∀ y ∈ csH cs, m ≤ y.1 ∧ y.1 < m + l.length ∧ VarR [] (gin gs ks g) w vs vs (16000 + y.1) (.hid y.2)) ∧ (csM cs).length ≤ l.length ∧
    (∀ y ∈ csG cs, ∀ lb x, y.to lb = some x → (∃ i q, cs[i]? = some q ∧ x.1 = m + i ∧ hasL q.a x.2.1 x.2.2 = true) ∨ (∃ i row, (csM cs)[i]? = some row ∧ x.1 = 15000 + (j + i) ∧ x.2.1 < row.length) ∨ (∃ i ts, (∀ y ∈ csH cs, y.1 = m + i → y.2 = ts) ∧ (m + i, ts) ∈ csH cs ∧ x.1 = 16000 + (m + i) ∧ hasL (.hid ts) x.2.1 x.2.2 = true)) := by
  intro l
  induction l with
  | nil =>
    intro m j pre cs he
    cases pre with
    | nil =>
      simp only [argsIn, Option.some.injEq] at he
      subst he
      intros
      simp [csM, csH, csG]
    | cons p ps => simp [argsIn] at he
  | cons x l ih =>
    intro m j pre cs he hc hgs hks hpre hvs
    cases pre with
    | nil => simp [argsIn] at he
    | cons p ps =>
      simp only [argsIn] at he
      split at he
      · rename_i q hq
        simp only [Option.map_eq_some_iff] at he
        obtain ⟨cs1, h1, rfl⟩ := he
        obtain ⟨hc1, hc2⟩ := hc
        have hgs1 : ∀ y ∈ q.gs, y ∈ gs := fun y hy => hgs y (by simp only [csG, List.flatMap_cons, List.mem_append]; exact .inl hy)
        have hgs2 : ∀ y ∈ csG cs1, y ∈ gs := fun y hy => hgs y (by simp only [csG, List.flatMap_cons, List.mem_append]; exact .inr hy)
        have hks1 : ∀ y ∈ q.ks, y ∈ ks := fun y hy => hks y (by simp only [csK, List.flatMap_cons, List.mem_append]; exact .inl hy)
        have hks2 : ∀ y ∈ csK cs1, y ∈ ks := fun y hy => hks y (by simp only [csK, List.flatMap_cons, List.mem_append]; exact .inr hy)
        obtain ⟨a1, a2, a3, a4⟩ := argIn_sound h hG hq hc1 (fun agg row e => by
          subst e
          obtain ⟨r1, y, r2, r3⟩ := hpre 0 agg row rfl
          simp at r2; subst r2
          exact ⟨by simpa using r3, r1⟩) hgs1 hks1 vs (by simpa using hvs 0 x rfl)
        have afit := argIn_fits h hq hc1
        obtain ⟨b1, b2, b3, b4, b5, b6⟩ := ih (m + 1) (j + q.mem.length) ps cs1 h1 hc2 hgs2 hks2 (fun i agg row hi => by
          obtain ⟨r1, y, r2, r3⟩ := hpre (i + 1) agg row (by simpa using hi)
          exact ⟨r1, y, by simpa using r2, by rwa [show m + 1 + i = m + (i + 1) by omega]⟩) (fun i y hi => by
          rw [show m + 1 + i = m + (i + 1) by omega]; exact hvs (i + 1) y (by simpa using hi))
        have hm0 : ∀ i row, (q.mem ++ csM cs1)[i]? = some row → (q.mem = [row] ∧ i = 0) ∨ (∃ i', i = q.mem.length + i' ∧ (csM cs1)[i']? = some row) := fun i row hi => by
          by_cases hlt : i < q.mem.length
          · left
            have : i = 0 := by omega
            subst this
            rw [List.getElem?_append_left hlt] at hi
            match hqm : q.mem, hi with
            | [r], hi => simp at hi; subst hi; exact ⟨rfl, rfl⟩
            | [], hi => simp at hi
            | r1 :: r2 :: rest, hi => rw [hqm] at a3; simp at a3
          · right
            refine ⟨i - q.mem.length, by omega, ?_⟩
            rw [List.getElem?_append_right (by omega)] at hi; exact hi
        refine ⟨by simp [b1], fun i q' hi => ?_, fun i row hi => ?_, fun y hy => ?_, ?_, fun y hy lb x hto => ?_⟩
        · cases i with
          | zero => simp at hi; subst hi; exact a1
          | succ i =>
            have := b2 i q' (by simpa using hi)
            rwa [show m + 1 + i = m + (i + 1) by omega] at this
        · rcases hm0 i row hi with ⟨e, rfl⟩ | ⟨i', rfl, hi'⟩
          · exact a2 row (by simp [e])
          · have := b3 i' row hi'
            rwa [show j + q.mem.length + i' = j + (q.mem.length + i') by omega] at this
        · simp only [csH, List.flatMap_cons, List.mem_append] at hy
          rcases hy with hy | hy
          · obtain ⟨e, r⟩ := a4 y hy
            rw [e]; exact ⟨Nat.le_refl _, by simp, r⟩
          · obtain ⟨r1, r2, r3⟩ := b4 y hy
            exact ⟨by omega, by simp; omega, r3⟩
        · simp only [csM, List.flatMap_cons, List.length_append, List.length_cons] at b5 ⊢
          omega
        · simp only [csG, List.flatMap_cons, List.mem_append] at hy
          rcases hy with hy | hy
          · rcases afit y hy lb x hto with ⟨r1, r2⟩ | ⟨r1, row, r2, r3⟩ | ⟨r1, ts, r2, r3⟩
            · exact .inl ⟨0, q, rfl, by simpa using r1, r2⟩
            · exact .inr (.inl ⟨0, row, by simp [csM, r2], by simpa using r1, r3⟩)
            · refine .inr (.inr ⟨0, ts, fun z hz e => ?_, by simp [csH, r2], by simpa using r1, r3⟩)
              simp only [csH, List.flatMap_cons, List.mem_append] at hz
              rcases hz with hz | hz
              · rw [r2] at hz; simp at hz; subst hz; rfl
              · have := (b4 z hz).1; omega
          · rcases b6 y hy lb x hto with ⟨i, q', r1, r2, r3⟩ | ⟨i, row, r1, r2, r3⟩ | ⟨i, ts, r0, r1, r2, r3⟩
            · exact .inl ⟨i + 1, q', by simpa using r1, by omega, r3⟩
            · refine .inr (.inl ⟨q.mem.length + i, row, ?_, by omega, r3⟩)
              show (q.mem ++ csM cs1)[_]? = _
              rw [List.getElem?_append_right (by omega), show q.mem.length + i - q.mem.length = i by omega]; exact r1
            · refine .inr (.inr ⟨i + 1, ts, fun z hz e => ?_, ?_, by omega, r3⟩)
              · simp only [csH, List.flatMap_cons, List.mem_append] at hz
                rcases hz with hz | hz
                · have := (a4 z hz).1; omega
                · exact r0 z hz (by omega)
              · rw [show m + (i + 1) = m + 1 + i by omega]
                simp only [csH, List.flatMap_cons, List.mem_append]; exact .inr r1
      · cases he

/-! ### Where the callee finds what -/
theorem getL_app {l l' : List (Nat × A)} {v : Nat} (h : ∀ p ∈ l, p.1 ≠ v) : getL (l ++ l') v = getL l' v := by
  induction l with
  | nil => rfl
  | cons p l ih =>
    obtain ⟨k, a⟩ := p
    simp only [List.cons_append, getL]
    rw [if_neg (fun e => h (k, a) (by simp) e.symm)]
    exact ih fun q hq => h q (by simp [hq])
theorem argS_get : ∀ (As : List A) (s i : Nat) (a : A) (l' : List (Nat × A)), As[i]? = some a → getL (argS s As ++ l') (s + i) = a := by
  intro As
  induction As with
  | nil => intro s i a l' h; simp at h
  | cons x l ih =>
    intro s i a l' h
    simp only [argS, List.cons_append, getL]
    cases i with
    | zero => simp at h; subst h; simp
    | succ i =>
      rw [if_neg (by omega), show s + (i + 1) = s + 1 + i by omega]
      exact ih (s + 1) i a l' (by simpa using h)
theorem argS_keys : ∀ (As : List A) (s : Nat) (p : Nat × A), p ∈ argS s As → p.1 < s + As.length := by
  intro As
  induction As with
  | nil => intro s p h; simp [argS] at h
  | cons x l ih =>
    intro s p h
    simp only [argS, List.mem_cons] at h
    rcases h with rfl | h
    · simp
    · have := ih (s + 1) p h; simp; omega
theorem memS_get : ∀ (ms : List Row) (s i : Nat) (row : Row) (l' : List (Nat × A)), ms[i]? = some row → getL (memS s ms ++ l') (15000 + (s + i)) = .mem (row.map .ow) := by
  intro ms
  induction ms with
  | nil => intro s i a l' h; simp at h
  | cons x l ih =>
    intro s i a l' h
    simp only [memS, List.cons_append, getL]
    cases i with
    | zero => simp at h; subst h; simp
    | succ i =>
      rw [if_neg (by omega), show s + (i + 1) = s + 1 + i by omega]
      exact ih (s + 1) i a l' (by simpa using h)
theorem memS_keys : ∀ (ms : List Row) (s : Nat) (p : Nat × A), p ∈ memS s ms → 15000 ≤ p.1 ∧ p.1 < 15000 + (s + ms.length) := by
  intro ms
  induction ms with
  | nil => intro s p h; simp [memS] at h
  | cons x l ih =>
    intro s p h
    simp only [memS, List.mem_cons] at h
    rcases h with rfl | h
    · simp
    · have := ih (s + 1) p h; simp; omega
theorem hidS_get : ∀ (hs : List (Nat × Row)) (m : Nat) (ts : Row), (∀ y ∈ hs, y.1 = m → y.2 = ts) → (m, ts) ∈ hs → getL (hidS hs) (16000 + m) = .hid ts := by
  intro hs
  induction hs with
  | nil => intro m ts _ h; cases h
  | cons y l ih =>
    intro m ts hu h
    simp only [hidS, getL]
    split
    · rename_i e
      rw [hu y (by simp) (by omega)]
    · rename_i e
      rcases List.mem_cons.1 h with rfl | h
      · exact absurd rfl e
      · exact ih m ts (fun z hz => hu z (by simp [hz])) h

theorem glR.rel {G : Glob} (h : Rel N w0 g0 ar S tm w g) (hg : glR G g0 w0) : glR G g w := fun x hx => by
  obtain ⟨⟨fr, h1⟩, h2⟩ := hg x hx
  obtain ⟨arr', k1, k2, k3⟩ := h.step.cells h1
  have hn : ∀ k, ¬ Wr g0 x.1 k := fun k ⟨l, hl, _⟩ => by rw [h2 k] at hl; cases hl
  have : arr' = x.2.1 := Array.ext_getElem? fun k => k3 k (hn k)
  subst this
  exact ⟨⟨fr, k1⟩, fun k => h.none _ k (lt_of_cells h1) (h2 k)⟩
theorem glR.gin {G : Glob} (h : glR G g w) : glR G (gin gs ks g) w := fun x hx => ⟨(h x hx).1, fun k => gin_none.2 ((h x hx).2 k)⟩

/-- What is handed over, and the condition. -/
def callIn (S : St) (args : List Arg) : Option (List CIn × St) := match stageMv S args with
  | some (pre, S1) => (argsIn S1 0 0 args pre).map fun cs => (cs, S1)
  | none => none
def gokB (gs : List Grp) (ks : List Key) : Bool := sepsB gs && dstB gs && rokB gs && ks.all fun k => gs.all fun g => !g.cov k
theorem gokB_ok (h : gokB gs ks = true) : GOk gs ks := by
  simp only [gokB, Bool.and_eq_true, List.all_eq_true, Bool.not_eq_true'] at h
  exact ⟨h.1.1.1, h.1.1.2, h.1.2, h.2⟩

theorem callIn_sound (h : Rel N w0 g0 ar S tm w g) {args : List Arg} {cs : List CIn} {S1 : St} (he : callIn S args = some (cs, S1)) (hc : csC cs) (hG : gokB (csG cs) (csK cs) = true) (hl : args.length ≤ 1000)
    {vs : List Value} (hvs : vs = args.map fun x => x.opd.val tm) :
    ∃ g1, Rel N w0 g0 ar S1 tm w g1 ∧ Ent (gin (csG cs) (csK cs) g1) w (csA cs) (csM cs) (csH cs) vs ∧ (∀ k ∈ S.k, k ∈ S1.k) ∧ (∀ v, S.get v = .any → S1.get v = .any) := by
  simp only [callIn] at he
  split at he
  · rename_i pre S1' hst
    simp only [Option.map_eq_some_iff, Prod.mk.injEq] at he
    obtain ⟨cs', he, rfl, rfl⟩ := he
    obtain ⟨g1, k1, k2, k3⟩ := stageMv_sound args 0 S _ g pre h hst
    have hG := gokB_ok hG
    obtain ⟨b1, b2, b3, b4, b5, b6⟩ := argsIn_sound k1 hG vs.toArray args 0 0 pre cs' he hc (fun _ h => h) (fun _ h => h) k2 (fun i x hi => by
      subst hvs
      simp [Array.getD_eq_getD_getElem?, hi])
    refine ⟨g1, k1, ⟨?_, gin_inj hG.sep hG.dst k1.inj, fun b k l hl => ?_, fun b k l hlb => ?_, fun i a hi => ?_, fun j row hj => ?_, fun q hq => ?_⟩, k3.k, k3.any⟩
    · subst hvs; simp [csA, b1]
    · obtain ⟨l0, h1, _⟩ := gin_some hl
      exact k1.old b k l0 h1
    · obtain ⟨l0, h1, h2⟩ := gin_some hlb
      rcases h2 with h2 | ⟨_, ⟨h2, _⟩ | h2⟩
      · right
        obtain ⟨y, hy, hto⟩ := gto_mem h2
        have hAl : (csA cs').length = args.length := by simp [csA, b1]
        rcases b6 y hy l0 l hto with ⟨i, q', r1, r2, r3⟩ | ⟨i, row, r1, r2, r3⟩ | ⟨i, ts, r0, r1, r2, r3⟩
        · have hi := (List.getElem?_eq_some_iff.1 r1).1
          have : (initS (csA cs') (csM cs') (csH cs')).get l.1 = q'.a := by
            rw [r2]
            exact argS_get _ 0 i _ _ (by simp [csA, r1])
          rw [this]; exact r3
        · have hi := (List.getElem?_eq_some_iff.1 r1).1
          have : (initS (csA cs') (csM cs') (csH cs')).get l.1 = .mem (row.map .ow) := by
            rw [r2]
            refine (getL_app fun p hp => ?_).trans (memS_get _ 0 i _ _ r1)
            have := argS_keys _ _ p hp
            omega
          rw [this]
          cases l.2.2 <;> simpa [hasL, ownAt] using r3
        · have : (initS (csA cs') (csM cs') (csH cs')).get l.1 = .hid ts := by
            rw [r2]
            have hlt := (b4 _ r1).2.1
            refine (getL_app fun p hp => ?_).trans ((getL_app fun p hp => ?_).trans (hidS_get _ (0 + i) ts r0 r1))
            · have := argS_keys _ _ p hp
              omega
            · have := memS_keys _ _ p hp
              omega
          rw [this]; exact r3
      · exact .inl (.inr (by rw [h2]; rfl))
      · exact .inl (.inl (by rw [h2]; rfl))
    · simp only [csA, List.getElem?_map, Option.map_eq_some_iff] at hi
      obtain ⟨q, hq, rfl⟩ := hi
      have := b2 i q hq
      rwa [Nat.zero_add] at this
    · have := b3 j row hj
      rwa [Nat.zero_add] at this
    · exact (b4 q hq).2.2
  · cases he
end Go.Eng

namespace Go.Eng
variable {P : Program} {N : Nat} {w0 : World} {g0 : Ghost} {ar tm : Array Value} {S S' : St} {w w1 : World} {g g1 : Ghost} {gs : List Grp} {ks : List Key} {vs : List Value} {rs : List Rv} {ms : List Row} {hs : List (Nat × Row)} {v : Value} {d : Nat}

def dec (l : Lab) : Option Lab := match l.2.2 with
  | (o, _) :: p => if l.2.1 = 19000 ∧ p ≠ [] then none else some (l.2.1, o, p)
  | [] => none
theorem dec_e (t a b : Nat) (c : Path) : dec (enc t (a, b, c)) = if a = 19000 ∧ c ≠ [] then none else some (a, b, c) := rfl
theorem dec_enc {t : Nat} {l : Lab} (h : l.1 = 19000 → l.2.2 = []) : dec (enc t l) = some l := by
  obtain ⟨a, b, c⟩ := l
  rw [dec_e, if_neg]
  rintro ⟨h1, h2⟩
  exact h2 (h h1)
theorem dec_some {t : Nat} {l m : Lab} (h : dec (enc t l) = some m) : m = l ∧ (l.1 = 19000 → l.2.2 = []) := by
  obtain ⟨a, b, c⟩ := l
  rw [dec_e] at h
  split at h
  · cases h
  · rename_i hn
    injection h with h
    refine ⟨h.symm, fun e => ?_⟩
    cases c with
    | nil => rfl
    | cons x p => exact absurd ⟨e, by simp⟩ hn
def lamR (rs : List Rv) (d : Nat) (l : Lab) : Option Lab := match rs with
  | [.bx row] => if l.1 = 30000 ∧ l.2.1 < row.length then some (10000 + d, l.2.1, l.2.2) else none
  | _ => if l.2.2 ≠ [] ∧ l.2.1 < 1000 then some (19000, 1000 * (l.1 - 30000) + l.2.1, l.2.2) else none
def lam (gs : List Grp) (rs : List Rv) (d : Nat) (l : Lab) : Option Lab :=
  if l.1 = 20001 ∨ l.1 = 20002 then dec l else if 30000 ≤ l.1 then lamR rs d l else gback gs l
noncomputable def gbk (gs : List Grp) (rs : List Rv) (d : Nat) (g1 : Ghost) : Ghost := gren (lam gs rs d) g1

/-- The box that a call makes has a root of its own. -/
def bxOk (S : St) (gs : List Grp) (d : Nat) : List Rv → Prop
  | [.bx _] => d < 5000 ∧ S.get (10000 + d) = .any ∧ gs.all (fun g => !(g.r == 10000 + d)) = true
  | _ => True

/-- The numbers of lent memory are few. -/
def jB (gs : List Grp) : Bool := gs.all fun g => match g with
  | .cm _ _ _ j => decide (j < 1000)
  | .ce _ _ _ _ _ _ j => decide (j < 1000)
  | _ => true

section
variable (hG : GOk gs ks) (hx : Exi (gin gs ks g) w g1 w1 vs rs ms hs v)
include hx

theorem bk_none {b k : Nat} (hb : b < w.heap.size) (hn : g b k = none) : ¬ Wr (gin gs ks g) b k ∧ gbk gs rs d g1 b k = none := by
  have hgn : gin gs ks g b k = none := gin_none.2 hn
  exact ⟨fun ⟨l, hl, _⟩ => (by rw [hgn] at hl; cases hl), gren_none (hx.none b k hb hgn)⟩

theorem bk_out {b k : Nat} {l : Lab} (hl : g b k = some l) (ht : gto gs l = none) (h9 : l.1 = 19000 → l.2.2 = []) : ¬ Wr (gin gs ks g) b k ∧ gbk gs rs d g1 b k = some l := by
  have key : ∀ t, t = 20001 ∨ t = 20002 → gin gs ks g b k = some (enc t l) → ¬ Wr (gin gs ks g) b k ∧ gbk gs rs d g1 b k = some l := fun t ht hg => by
    have hsp : Sp (enc t l) := by rcases ht with rfl | rfl; exact .inl rfl; exact .inr rfl
    refine ⟨fun ⟨m, hm, hn⟩ => ?_, gren_of ((hx.sp b k _ hsp).1 hg) ?_⟩
    · rw [hg] at hm; injection hm with hm; exact hn (hm ▸ hsp)
    · simp only [lam]
      rw [if_pos (by rcases hsp with hsp | hsp; exact .inl hsp; exact .inr hsp)]
      exact dec_enc h9
  rcases gin_out (ks := ks) hl ht with ⟨hg, _⟩ | hg
  · exact key _ (.inr rfl) hg
  · exact key _ (.inl rfl) hg

omit hx in
include hG in
theorem bk_back {b k : Nat} {l x : Lab} (hl : g1 b k = some x) (hb : gback gs x = some l) : gbk gs rs d g1 b k = some l := by
  obtain ⟨y, hy, hyb⟩ := gback_mem hb
  have hlt : x.1 < 19000 := gto_dst hG.dst (gto_of hG.sep hy (Grp.back_to hyb))
  refine gren_of hl ?_
  simp only [lam]
  rw [if_neg (by omega), if_neg (by omega)]
  exact hb

include hG in
theorem bk_root (hj : jB gs = true) {b k r o : Nat} (hl : g b k = some (r, o, [])) : gbk gs rs d g1 b k = some (r, o, []) := by
  cases ht : gto gs (r, o, []) with
  | none => exact (bk_out hx hl ht (fun _ => rfl)).2
  | some x =>
    obtain ⟨y, hy, hto⟩ := gto_mem ht
    have hj := List.all_eq_true.1 hj y hy
    have hk := gin_of (ks := ks) hl ht
    have hs : y.isS = false := by
      cases y with
      | cs m o' => simp [Grp.to] at hto
      | _ => rfl
    have hback : gback gs x = some (r, o, []) := gback_of hG.sep hy (Grp.to_back hto hs)
    have h1 : x.2.2 = [] ∧ 15000 ≤ x.1 ∧ x.1 < 16000 := by
      cases y with
      | cm r' o' n j =>
        simp only [Grp.to] at hto
        split at hto
        · injection hto with hto; subst hto
          simp only [decide_eq_true_eq] at hj
          exact ⟨rfl, by simp only; omega, by simp only; omega⟩
        · cases hto
      | ce r' o' p i oo n j =>
        simp only [Grp.to] at hto
        split at hto
        · cases p with
          | nil => simp [strip] at hto
          | cons z p => simp [strip] at hto
        · cases hto
      | ch l0 m o' n =>
        simp only [Grp.to] at hto
        split at hto
        · obtain ⟨l1, l2, p⟩ := l0
          cases p with
          | nil => simp [strip] at hto
          | cons z p => simp [strip] at hto
        · cases hto
      | cs m o' => cases hs
    obtain ⟨x1, x2, x3⟩ := x
    simp only at h1
    obtain ⟨rfl, h2, h3⟩ := h1
    exact bk_back hG (hx.outk b k x1 x2 h2 h3 hk) hback

include hG in
/-- Whence a label came. -/
theorem bk_inv {b k : Nat} {l : Lab} (hl : gbk gs rs d g1 b k = some l) : (g b k = some l ∧ gto gs l = none ∧ (l.1 = 19000 → l.2.2 = [])) ∨ (∃ x, g1 b k = some x ∧ gback gs x = some l) ∨ (∃ x, g1 b k = some x ∧ 30000 ≤ x.1 ∧ lamR rs d x = some l) := by
  obtain ⟨x, h1, h2⟩ := gren_some hl
  simp only [lam] at h2
  split at h2
  · rename_i hsp
    left
    have hsp : Sp x := hsp
    obtain ⟨l0, a1, a2⟩ := gin_some ((hx.sp b k x hsp).2 h1)
    rcases a2 with a2 | ⟨a2, a3⟩
    · -- groups do not lead there
      exfalso
      obtain ⟨y, hy, hto⟩ := gto_mem a2
      have := gto_dst hG.dst a2
      rcases hsp with hsp | hsp <;> omega
    · have : dec x = some l := h2
      rcases a3 with ⟨e, _⟩ | e <;> (rw [e] at this; obtain ⟨rfl, q⟩ := dec_some this; exact ⟨a1, a2, q⟩)
  · split at h2
    · exact .inr (.inr ⟨x, h1, by assumption, h2⟩)
    · exact .inr (.inl ⟨x, h1, h2⟩)
end
end Go.Eng

namespace Go.Eng

def upC (t : Option T) (c : Cl) : Cl := match t with | some t => .ow t | none => c
def mapRow (f : Nat → Option T) : Nat → List Cl → List Cl
  | _, [] => []
  | o, c :: l => upC (f o) c :: mapRow f (o + 1) l
def mapTup (f : Nat → Option T) : Nat → List (Bool × List Cl) → List (Bool × List Cl)
  | _, [] => []
  | m, r :: l => (r.1, mapRow f (1000 * m) r.2) :: mapTup f (m + 1) l
def mapHid (f : Nat → Option T) : Nat → Row → Row
  | _, [] => []
  | o, c :: l => (f o).getD c :: mapHid f (o + 1) l
def mapAt (f : Nat → Option T) : A → A
  | .val agg row => .val agg (mapRow f 0 row)
  | .tup rs => .tup (mapTup f 0 rs)
  | .mem row => .mem (mapRow f 0 row)
  | .hid row => .hid (mapHid f 0 row)
  | a => a
theorem mapRow_get (f : Nat → Option T) : ∀ (row : List Cl) (s j : Nat), (mapRow f s row)[j]? = row[j]?.map (upC (f (s + j))) := by
  intro row
  induction row with
  | nil => intro s j; simp [mapRow]
  | cons c l ih =>
    intro s j
    cases j with
    | zero => simp [mapRow]
    | succ j => simp only [mapRow, List.getElem?_cons_succ, ih]; rw [show s + 1 + j = s + (j + 1) by omega]
theorem mapRow_len (f : Nat → Option T) : ∀ (row : List Cl) (s : Nat), (mapRow f s row).length = row.length := by
  intro row
  induction row with
  | nil => intro s; rfl
  | cons c l ih => intro s; simp [mapRow, ih]
theorem mapTup_get (f : Nat → Option T) : ∀ (rs : List (Bool × List Cl)) (s m : Nat), (mapTup f s rs)[m]? = rs[m]?.map fun r => (r.1, mapRow f (1000 * (s + m)) r.2) := by
  intro rs
  induction rs with
  | nil => intro s j; simp [mapTup]
  | cons c l ih =>
    intro s j
    cases j with
    | zero => simp [mapTup]
    | succ j => simp only [mapTup, List.getElem?_cons_succ, ih]; rw [show s + 1 + j = s + (j + 1) by omega]
theorem mapTup_len (f : Nat → Option T) : ∀ (rs : List (Bool × List Cl)) (s : Nat), (mapTup f s rs).length = rs.length := by
  intro rs
  induction rs with
  | nil => intro s; rfl
  | cons c l ih => intro s; simp [mapTup, ih]
theorem mapHid_get (f : Nat → Option T) : ∀ (row : Row) (s j : Nat), (mapHid f s row)[j]? = row[j]?.map (f (s + j)).getD := by
  intro row
  induction row with
  | nil => intro s j; simp [mapHid]
  | cons c l ih =>
    intro s j
    cases j with
    | zero => simp [mapHid]
    | succ j => simp only [mapHid, List.getElem?_cons_succ, ih]; rw [show s + 1 + j = s + (j + 1) by omega]
theorem mapHid_len (f : Nat → Option T) : ∀ (row : Row) (s : Nat), (mapHid f s row).length = row.length := by
  intro row
  induction row with
  | nil => intro s; rfl
  | cons c l ih => intro s; simp [mapHid, ih]

theorem mapAt_own {f : Nat → Option T} {a : A} {o : Nat} (hf : ∀ t, f o = some t → ownC (.ow t) = true ∨ ∃ row, a = .mem row) (h : ownAt a o = true) : ownAt (mapAt f a) o = true := by
  cases a with
  | val agg row =>
    simp only [mapAt, ownAt, mapRow_get, Nat.zero_add] at h ⊢
    cases hc : row[o]? with
    | none => rw [hc] at h; cases h
    | some c =>
      rw [hc] at h
      simp only [Option.map_some, upC]
      split
      · rename_i t ht; rcases hf t ht with q | ⟨_, q⟩; exact q; cases q
      · exact h
  | tup rs =>
    simp only [mapAt, ownAt, mapTup_get, Nat.zero_add] at h ⊢
    cases hc : rs[o / 1000]? with
    | none => rw [hc] at h; cases h
    | some r =>
      rw [hc] at h
      simp only [Option.map_some, mapRow_get] at h ⊢
      cases hc2 : r.2[o % 1000]? with
      | none => rw [hc2] at h; cases h
      | some c =>
        rw [hc2] at h
        simp only [Option.map_some, upC] at h ⊢
        rw [show 1000 * (o / 1000) + o % 1000 = o by omega]
        split
        · rename_i t ht; rcases hf t ht with q | ⟨_, q⟩; exact q; cases q
        · exact h
  | mem row => simpa [mapAt, ownAt, mapRow_len] using h
  | hid row =>
    simp only [mapAt, ownAt, mapHid_get, Nat.zero_add] at h ⊢
    cases hc : row[o]? with
    | none => rw [hc] at h; cases h
    | some c =>
      rw [hc] at h
      simp only [Option.map_some]
      cases ht : f o with
      | none => exact h
      | some t => rcases hf t ht with q | ⟨_, q⟩; exact q; cases q
  | _ => exact h
theorem mapAt_hasL {f : Nat → Option T} {a : A} {o : Nat} {p : Path} (hf : ∀ t, f o = some t → ownC (.ow t) = true ∨ ∃ row, a = .mem row) (h : hasL a o p = true) : hasL (mapAt f a) o p = true := by
  cases p with
  | nil => cases a <;> simp_all [hasL, mapAt, mapRow_len]
  | cons x p =>
    have h1 : ownAt a o = true := hasL_own h
    have := mapAt_own hf h1
    cases a <;> exact this
theorem mapAt_mem {f : Nat → Option T} {a : A} (h : ∀ row, a ≠ .mem row) (row : List Cl) : mapAt f a ≠ .mem row := by
  cases a <;> simp_all [mapAt]
theorem treeAt_own {a : A} {o : Nat} {t : T} (h : treeAt a o = some t) (ht : ownC (.ow t) = true ∨ ∃ row, a = .mem row) : ownAt a o = true := by
  cases a with
  | val agg row =>
    simp only [treeAt, Option.bind_eq_some_iff] at h
    obtain ⟨c, h1, h2⟩ := h
    rw [clT_some h2] at h1
    simp only [ownAt, h1]
    rcases ht with ht | ⟨_, ht⟩; exact ht; cases ht
  | tup rs =>
    simp only [treeAt, Option.bind_eq_some_iff] at h
    obtain ⟨r, h0, c, h1, h2⟩ := h
    rw [clT_some h2] at h1
    simp only [ownAt, h0, h1]
    rcases ht with ht | ⟨_, ht⟩; exact ht; cases ht
  | mem row =>
    simp only [treeAt, Option.bind_eq_some_iff] at h
    obtain ⟨c, h1, h2⟩ := h
    simp [ownAt, (List.getElem?_eq_some_iff.1 h1).1]
  | hid row =>
    simp only [treeAt] at h
    simp only [ownAt, h]
    rcases ht with ht | ⟨_, ht⟩; exact ht; cases ht
  | _ => simp [treeAt] at h

section
variable {K K' : List Key} {D : Key → Prop} {g g' : Ghost} {w w' : World} {M : Nat → Nat → Prop}

/-- One cell behind the change. -/
theorem ClR.up {v o : Nat} {c : Cl} {x : Value} {ft : Option T} (h : ClR K g w v o c x) (hc : Chg K K' D g g' w w' M) (hD : D (v, o) → ownC c = true → ∃ t', ft = some t')
    (hN : ∀ t', ft = some t' → ∃ t, clT c = some t) (hT : ∀ t t', ft = some t' → clT c = some t → TR g w v o [] t x → TR g' w' v o [] t' x) : ClR K' g' w' v o (upC ft c) x := by
  cases hf : ft with
  | some t' =>
    obtain ⟨t, ht⟩ := hN t' hf
    have hce := clT_some ht
    subst hce
    exact hT t t' hf ht h
  | none =>
    refine h.chg hc fun ho hd => ?_
    obtain ⟨t', ht⟩ := hD hd ho
    rw [hf] at ht; cases ht
theorem ValR.up {v base : Nat} {agg : Bool} {row : List Cl} {x : Value} {f : Nat → Option T} (h : ValR K g w v base agg row x) (hc : Chg K K' D g g' w w' M) (hD : ∀ o c, row[o]? = some c → D (v, base + o) → ownC c = true → ∃ t', f (base + o) = some t')
    (hN : ∀ o c t', row[o]? = some c → f (base + o) = some t' → ∃ t, clT c = some t) (hT : ∀ o c t t' x, row[o]? = some c → f (base + o) = some t' → clT c = some t → TR g w v (base + o) [] t x → TR g' w' v (base + o) [] t' x) :
    ValR K' g' w' v base agg (mapRow f base row) x := by
  obtain ⟨q1, q2⟩ := h.cells
  refine ValR.of_cells ?_ (by rw [mapRow_len]; exact q1) fun o c hcc => ?_
  · rcases h.shape with hh | ⟨h1, h2⟩
    · exact .inl hh
    · exact .inr ⟨h1, by rw [mapRow_len]; exact h2⟩
  · rw [mapRow_get] at hcc
    simp only [Option.map_eq_some_iff] at hcc
    obtain ⟨c0, h0, rfl⟩ := hcc
    exact (q2 o c0 h0).up hc (hD o c0 h0) (fun t' => hN o c0 t' h0) (fun t t' e1 e2 => hT o c0 t t' _ h0 e1 e2)

/-- A variable behind a change that touches its cells: each by itself. -/
theorem VarR.up {tm ar : Array Value} {v : Nat} {a : A} {f : Nat → Option T} (h : VarR K g w tm ar v a) (hc : Chg K K' D g g' w w' M)
    (hD : ∀ o, D (v, o) → ownAt a o = true → ∃ t', f o = some t') (hN : ∀ o t', f o = some t' → ∃ t, treeAt a o = some t)
    (hT : (∀ row, a ≠ .mem row) → ∀ o t t' x, f o = some t' → treeAt a o = some t → TR g w v o [] t x → TR g' w' v o [] t' x)
    (hM : ∀ row, a = .mem row → ∀ o t t', f o = some t' → treeAt a o = some t → ∀ b k arr arr' e, g b k = some (v, o, []) → k < arr.size → w.heap[b]? = some (.cells arr e (0, 0)) → w'.heap[b]? = some (.cells arr' e (0, 0)) → TR g w v o [] t (arr.getD k undef) → TR g' w' v o [] t' (arr'.getD k undef)) :
    VarR K' g' w' tm ar v (mapAt f a) := by
  cases a with
  | any => trivial
  | pr r o => exact h.chg hc rfl (by simp [ownAt])
  | pe pl ks row => exact h.chg hc rfl (by simp [ownAt])
  | fn f' ks rows => exact h.chg hc rfl (by simp [ownAt])
  | al m agg => exact h.chg hc rfl (by simp [ownAt])
  | val agg row =>
    have hTT := hT (by simp)
    have h : ValR K g w v 0 agg row (tm.getD v undef) := h
    refine h.up hc (fun o c e hd ho => ?_) (fun o c t' e hf => ?_) (fun o c t t' x e hf ht htr => ?_)
    · rw [Nat.zero_add] at hd ⊢; exact hD o hd (by simp [ownAt, e, ho])
    · rw [Nat.zero_add] at hf
      obtain ⟨t, ht⟩ := hN o t' hf
      simp only [treeAt, e, Option.bind_some] at ht
      exact ⟨t, ht⟩
    · rw [Nat.zero_add] at hf htr ⊢
      exact hTT o t t' x hf (by simp only [treeAt, e, Option.bind_some]; exact ht) htr
  | tup rs =>
    have hTT := hT (by simp)
    obtain ⟨xs, h1, h2, h3⟩ := h
    refine ⟨xs, h1, by rw [mapTup_len]; exact h2, fun m agg row e => ?_⟩
    rw [mapTup_get] at e
    simp only [Option.map_eq_some_iff, Nat.zero_add] at e
    obtain ⟨⟨agg0, row0⟩, e0, e1⟩ := e
    injection e1 with e1 e2
    simp only at e1 e2; subst e1; subst e2
    obtain ⟨q1, q2⟩ := h3 m _ _ e0
    have hdm : ∀ o c, row0[o]? = some c → (1000 * m + o) / 1000 = m ∧ (1000 * m + o) % 1000 = o := fun o c e => by
      have := (List.getElem?_eq_some_iff.1 e).1
      omega
    refine ⟨by rw [mapRow_len]; exact q1, q2.up hc (fun o c e hd ho => ?_) (fun o c t' e hf => ?_) (fun o c t t' x e hf ht htr => ?_)⟩
    · obtain ⟨d1, d2⟩ := hdm o c e
      exact hD _ hd (by simp [ownAt, d1, d2, e0, e, ho])
    · obtain ⟨d1, d2⟩ := hdm o c e
      obtain ⟨t, ht⟩ := hN _ t' hf
      simp only [treeAt, d1, d2, e0, e, Option.bind_some] at ht
      exact ⟨t, ht⟩
    · obtain ⟨d1, d2⟩ := hdm o c e
      exact hTT _ t t' x hf (by simp only [treeAt, d1, d2, e0, e, Option.bind_some]; exact ht) htr
  | mem row =>
    have hMM := hM row rfl
    obtain ⟨b, k0, arr, e, h1, h2, h3⟩ := h
    obtain ⟨arr', k1, k2, k3⟩ := hc.st.cells h1
    refine ⟨b, k0, arr', e, k1, by rw [mapRow_len]; omega, fun o c e' => ?_⟩
    rw [mapRow_get] at e'
    simp only [Option.map_eq_some_iff, Nat.zero_add] at e'
    obtain ⟨c0, e0, rfl⟩ := e'
    obtain ⟨q1, q2⟩ := h3 o c0 e0
    have hlt := (List.getElem?_eq_some_iff.1 e0).1
    refine ⟨hc.root _ _ _ _ q1, ?_⟩
    cases hf : f o with
    | some t' =>
      obtain ⟨t, ht⟩ := hN o t' hf
      have ht2 := ht
      simp only [treeAt, e0, Option.bind_some] at ht2
      have hce := clT_some ht2
      subst hce
      exact hMM o t t' hf ht b _ arr arr' e q1 (by omega) h1 k1 q2
    | none =>
      have hk : ¬ D (v, o) := fun hd => by
        obtain ⟨t', ht⟩ := hD o hd (by simp [ownAt, hlt])
        rw [hf] at ht; cases ht
      have := hc.un _ _ _ q1 (.inr hk)
      rw [getD_of_getElem? (k3 _ this.1)]
      exact q2.chg hc fun _ => hk
  | hid row =>
    have hTT := hT (by simp)
    obtain ⟨h1, h2⟩ := h
    refine ⟨by rw [mapHid_len]; exact h1, fun o c e' => ?_⟩
    rw [mapHid_get] at e'
    simp only [Option.map_eq_some_iff, Nat.zero_add] at e'
    obtain ⟨c0, e0, rfl⟩ := e'
    cases hf : f o with
    | some t' => exact hTT o c0 t' _ hf (by simp only [treeAt]; exact e0) (h2 o c0 e0)
    | none =>
      refine hc.tr (h2 o c0 e0) fun hown hd => ?_
      obtain ⟨t', ht⟩ := hD o hd (by simp only [ownAt, e0]; exact hown)
      rw [hf] at ht; cases ht
end
end Go.Eng

namespace Go.Eng
variable {P : Program} {N : Nat} {w0 : World} {g0 : Ghost} {ar tm : Array Value} {S S' : St} {w w1 : World} {g g1 : Ghost} {gs : List Grp} {ks : List Key} {vs : List Value} {rs : List Rv} {ms : List Row} {hs : List (Nat × Row)} {v : Value} {d : Nat}

theorem sepsB_mem {gs : List Grp} (h : sepsB gs = true) {y y' : Grp} (h1 : y ∈ gs) (h2 : y' ∈ gs) : y = y' ∨ Grp.sepB y y' = true ∨ Grp.sepB y' y = true := by
  induction gs with
  | nil => cases h1
  | cons z l ih =>
    simp only [sepsB, Bool.and_eq_true, List.all_eq_true] at h
    rcases List.mem_cons.1 h1 with e1 | h1 <;> rcases List.mem_cons.1 h2 with e2 | h2
    · exact .inl (e1.trans e2.symm)
    · rw [e1]; exact .inr (.inl (h.1 _ h2))
    · rw [e2]; exact .inr (.inr (h.1 _ h1))
    · exact ih h.2 h1 h2
theorem cov_iff {y : Grp} {k : Key} : y.cov k = true ↔ k.1 = y.r ∧ y.lo ≤ k.2 ∧ k.2 < y.hi := by
  simp only [Grp.cov, Bool.and_eq_true, beq_iff_eq, decide_eq_true_eq]
  exact ⟨fun ⟨⟨a, b⟩, c⟩ => ⟨a.symm, b, c⟩, fun ⟨a, b, c⟩ => ⟨⟨a.symm, b⟩, c⟩⟩
theorem cov_uniq {gs : List Grp} (h : sepsB gs = true) {y y' : Grp} (h1 : y ∈ gs) (h2 : y' ∈ gs) {k : Key} (c1 : y.cov k = true) (c2 : y'.cov k = true) : y = y' := by
  rw [cov_iff] at c1 c2
  rcases sepsB_mem h h1 h2 with e | e | e
  · exact e
  · simp only [Grp.sepB, Bool.and_eq_true, Bool.or_eq_true, Bool.not_eq_true', beq_eq_false_iff_ne, decide_eq_true_eq] at e
    rcases e.1 with (e | e) | e <;> omega
  · simp only [Grp.sepB, Bool.and_eq_true, Bool.or_eq_true, Bool.not_eq_true', beq_eq_false_iff_ne, decide_eq_true_eq] at e
    rcases e.1 with (e | e) | e <;> omega
theorem gto_uniq {gs : List Grp} (h : sepsB gs = true) {y : Grp} (h1 : y ∈ gs) {l : Lab} (c1 : y.cov (l.1, l.2.1) = true) : gto gs l = y.to l := by
  cases ht : gto gs l with
  | some x =>
    obtain ⟨y', h2, h3⟩ := gto_mem ht
    rw [cov_uniq h h1 h2 c1 (Grp.to_cov h3), h3]
  | none =>
    cases hy : y.to l with
    | none => rfl
    | some x => rw [gto_of h h1 hy] at ht; cases ht
theorem gto_uncov {gs : List Grp} {l : Lab} (h : ∀ y ∈ gs, y.cov (l.1, l.2.1) = false) : gto gs l = none := by
  cases ht : gto gs l with
  | none => rfl
  | some x =>
    obtain ⟨y, h2, h3⟩ := gto_mem ht
    have := h y h2
    rw [Grp.to_cov h3] at this; cases this

def hidL : List (Nat × Row) → Nat → Row
  | [], _ => []
  | (k, r) :: l, m => if k = m then r else hidL l m
theorem hidL_mem {l : List (Nat × Row)} {m o : Nat} {t : T} (h : (hidL l m)[o]? = some t) : (m, hidL l m) ∈ l := by
  induction l with
  | nil => simp [hidL] at h
  | cons q l ih =>
    obtain ⟨k, r⟩ := q
    simp only [hidL] at h ⊢
    split
    · rename_i e; subst e; simp
    · rename_i e
      rw [if_neg e] at h
      exact List.mem_cons_of_mem _ (ih h)

/-- What stands in a cell of the caller's behind the call. -/
def updG (S : St) (ms : List Row) (hs : List (Nat × Row)) (o : Nat) : Grp → Option T
  | .cm r o0 n j => (ms.getD j [])[o - o0]?
  | .ce r o0 p i oo n j => match treeAt (S.get r) o0 with
    | some t0 => (match ndT p t0 with
      | some (.sl md sz rows) => some (mdT p (.sl md sz (setRow rows i oo (ms.getD j []))) t0)
      | _ => none)
    | none => none
  | .ch pl m o0 n => match treeAt (S.get pl.1) pl.2.1 with
    | some t0 => (match ndT pl.2.2 t0 with
      | some (.sl md sz _) => (match (hidL hs m)[o0]? with
        | some (.sl .el _ rows') => some (mdT pl.2.2 (.sl md sz rows') t0)
        | _ => none)
      | _ => none)
    | none => none
  | .cs _ _ => none
def updF (S : St) (ms : List Row) (hs : List (Nat × Row)) (v o : Nat) : List Grp → Option T
  | [] => none
  | y :: l => if !y.isS && y.cov (v, o) then updG S ms hs o y else updF S ms hs v o l
/-- What the callee gives back fits. -/
def retB (S : St) (ms : List Row) (hs : List (Nat × Row)) : Grp → Prop
  | .cm _ _ n j => (ms.getD j []).length = n
  | .ce _ _ _ _ _ n j => (ms.getD j []).length = n
  | .ch pl m o n => match (treeAt (S.get pl.1) pl.2.1).bind (ndT pl.2.2), (hidL hs m)[o]? with
    | some (.sl _ sz _), some (.sl .el sz' rows') => sz' = sz ∧ rows'.length = n
    | _, _ => False
  | .cs _ _ => True
def retC (S : St) (ms : List Row) (hs : List (Nat × Row)) : List Grp → Prop
  | [] => True
  | y :: l => retB S ms hs y ∧ retC S ms hs l
theorem retC_mem {gs : List Grp} (h : retC S ms hs gs) {y : Grp} (hy : y ∈ gs) : retB S ms hs y := by
  induction gs with
  | nil => cases hy
  | cons z l ih =>
    rcases List.mem_cons.1 hy with rfl | hy
    · exact h.1
    · exact ih h.2 hy

/-- What a group is made of. -/
def GW (S : St) (gi : Ghost) (w : World) (vs : Array Value) : Grp → Prop
  | .cm r o n j => ∃ R ts, S.get r = .mem R ∧ rowT ((R.drop o).take n) = some ts ∧ o + n ≤ R.length ∧ r < 19000
  | .ce r o p i oo n j => ∃ t0 md sz rows, treeAt (S.get r) o = some t0 ∧ ndT p t0 = some (.sl md sz rows) ∧ md ≠ .fro ∧ r < 19000 ∧ i < rows.length ∧ oo + n ≤ sz
  | .ch pl m o n => ∃ t0 md sz rows, treeAt (S.get pl.1) pl.2.1 = some t0 ∧ ndT pl.2.2 t0 = some (.sl md sz rows) ∧ md ≠ .fro ∧ pl.1 < 19000 ∧ rows.length = n ∧ TR gi w (16000 + m) o [] (.sl .el sz rows) ((vs.getD m undef).cells.getD o undef)
  | .cs _ _ => True

theorem updF_some {v o : Nat} {t : T} : ∀ {l : List Grp}, updF S ms hs v o l = some t → ∃ y ∈ l, y.isS = false ∧ y.cov (v, o) = true ∧ updG S ms hs o y = some t := by
  intro l
  induction l with
  | nil => intro h; cases h
  | cons y l ih =>
    intro h
    simp only [updF] at h
    split at h
    · rename_i hc
      simp only [Bool.and_eq_true, Bool.not_eq_true'] at hc
      exact ⟨y, by simp, hc.1, hc.2, h⟩
    · obtain ⟨z, h1, h2⟩ := ih h
      exact ⟨z, by simp [h1], h2⟩
theorem updF_of {v o : Nat} {y : Grp} : ∀ {l : List Grp}, sepsB l = true → y ∈ l → y.isS = false → y.cov (v, o) = true → updF S ms hs v o l = updG S ms hs o y := by
  intro l
  induction l with
  | nil => intro _ h; cases h
  | cons z l ih =>
    intro hs h h1 h2
    simp only [updF]
    split
    · rename_i hc
      simp only [Bool.and_eq_true, Bool.not_eq_true'] at hc
      rw [cov_uniq hs (by simp) h hc.2 h2]
    · rename_i hc
      rcases List.mem_cons.1 h with rfl | h
      · exact absurd (by simp [h1, h2]) hc
      · simp only [sepsB, Bool.and_eq_true] at hs
        exact ih hs.2 h h1 h2

/-- A tree whose part is a slice owns memory. -/
theorem own_md {p : Path} {t0 : T} {md : Md} {sz : Nat} {rows rows' : List Row} (h : ndT p t0 = some (.sl md sz rows)) (hm : md ≠ .fro) : ownC (.ow t0) = true ∧ ownC (.ow (mdT p (.sl md sz rows') t0)) = true := by
  cases p with
  | nil =>
    simp only [ndT, Option.some.injEq] at h; subst h
    cases md <;> simp [ownC, mdT] at hm ⊢
  | cons x p =>
    obtain ⟨i, o⟩ := x
    cases hk : t0.kids with
    | none => simp [ndT, hk] at h
    | some rows' =>
      obtain ⟨md, sz', rfl, hmd⟩ := T.kids_some hk
      cases md <;> simp [mdT, ownC] at hmd ⊢

section
variable (h : Rel N w0 g0 ar S tm w g) (hG : GOk gs ks) (hx : Exi (gin gs ks g) w g1 w1 vs rs ms hs v)
include hG hx

/-- What the callee owned of the caller's, behind. -/
theorem bk_tr {r o r' o' : Nat} {p p' : Path} {t : T} {x : Value} (ht : TR g1 w1 r o p t x) (hb : ∀ q, q ≠ [] → gback gs (r, o, p ++ q) = some (r', o', p' ++ q)) : TR (gbk gs rs d g1) w1 r' o' p' t x :=
  have _ := hx
  ht.map (Step.refl (fun _ _ => False) w1) (fun b k _ hn => ⟨fun h => h, gren_none hn⟩) p' fun b k q _ hq hl => ⟨fun h => h, bk_back hG hl (hb q hq)⟩

/-- The rest of a tree whose part was lent. -/
theorem bk_rest {y : Grp} (hy : y ∈ gs) {r o : Nat} {p : Path} {t0 n : T} {x v1 : Value} (hr : r ≠ 19000) (hcov : y.cov (r, o) = true) (hto : ∀ s, s ≠ [] → (∀ s', s' ≠ [] → s ≠ p ++ s') → y.to (r, o, s) = none)
    (hz : ∀ (g' : Ghost) (w' : World) (M : Nat → Nat → Prop) (n : T), Step M w w' → (∀ b k, b < w.heap.size → g b k = none → ¬ M b k ∧ g' b k = none) →
      (∀ b k s, b < w.heap.size → s ≠ [] → g b k = some (r, o, [] ++ s) → (∀ s', s' ≠ [] → s ≠ p ++ s') → ¬ M b k ∧ g' b k = some (r, o, [] ++ s)) →
      TR g' w' r o ([] ++ p) n v1 → TR g' w' r o [] (mdT p n t0) x) (hn : TR (gbk gs rs d g1) w1 r o p n v1) : TR (gbk gs rs d g1) w1 r o [] (mdT p n t0) x :=
  hz _ _ (Wr (gin gs ks g)) n hx.step (fun b k hb hn => bk_none hx hb hn) (fun b k s _ hs hl hns => by
    rw [List.nil_append] at hl ⊢
    exact bk_out hx hl (by rw [gto_uniq hG.sep hy (l := (r, o, s)) hcov]; exact hto s hs hns) (fun e => absurd e hr)) (by simpa using hn)

include h
theorem bk_ce (hj : jB gs = true) {r o i oo n j : Nat} {p : Path} (hy : Grp.ce r o p i oo n j ∈ gs) (hw : GW S (gin gs ks g) w vs.toArray (.ce r o p i oo n j)) (hr : retB S ms hs (.ce r o p i oo n j)) {t0 t' : T} {x : Value} (ht0 : treeAt (S.get r) o = some t0)
    (hu : updG S ms hs o (.ce r o p i oo n j) = some t') (ht : TR g w r o [] t0 x) : TR (gbk gs rs d g1) w1 r o [] t' x := by
  have _ := h
  obtain ⟨t00, md, sz, rows, e0, hnd, hmd, hr19, hi, hle⟩ := hw
  rw [ht0] at e0; injection e0 with e0; subst e0
  simp only [updG, ht0, hnd, Option.some.injEq] at hu
  subst hu
  have hlen : (ms.getD j []).length = n := hr
  have hj1 : j < 1000 := by have := List.all_eq_true.1 hj _ hy; simpa using this
  obtain ⟨v1, z1, z2⟩ := TR.zip p [] t0 _ x ht hnd
  rw [List.nil_append] at z1
  refine bk_rest hG hx hy (by omega) (by rw [cov_iff]; exact ⟨rfl, Nat.le_refl _, Nat.lt_succ_self _⟩) (fun s hs hns => ?_) z2 ?_
  · simp only [Grp.to, and_self, if_true]
    split
    · rename_i i' o' q hst
      exact absurd (strip_iff.1 hst) (hns _ (by simp))
    · rfl
  cases z1 with
  | fro => exact absurd rfl hmd
  | nil => simp at hi
  | own _ _ _ b0 off cap _ arr e _ hb hl hs hle' h0 hnn hlab hc =>
    have hbd := bnd_ge (md := md) hle'
    obtain ⟨arr', a1, a2, a3⟩ := hx.step.cells hb
    have hlt := lt_of_cells hb
    have hto : ∀ i' o' s, (i' ≠ i ∨ o' < oo ∨ oo + n ≤ o') → gto gs (r, o, p ++ (i', o') :: s) = none := fun i' o' s hne => by
      rw [gto_uniq hG.sep hy (by rw [cov_iff]; exact ⟨rfl, Nat.le_refl _, Nat.lt_succ_self _⟩)]
      have : strip p (p ++ (i', o') :: s) = some ((i', o') :: s) := strip_iff.2 rfl
      simp only [Grp.to, and_self, if_true, this]
      rw [if_neg (by omega)]
    have htoIn : ∀ q s, q < n → gto gs (r, o, p ++ (i, oo + q) :: s) = some (15000 + j, q, s) := fun q s hq => by
      rw [gto_uniq hG.sep hy (by rw [cov_iff]; exact ⟨rfl, Nat.le_refl _, Nat.lt_succ_self _⟩)]
      have : strip p (p ++ (i, oo + q) :: s) = some ((i, oo + q) :: s) := strip_iff.2 rfl
      simp only [Grp.to, and_self, if_true, this, true_and]
      rw [if_pos (by omega), show oo + q - oo = q by omega]
    have hback : ∀ q s, q < n → gback gs (15000 + j, q, s) = some (r, o, p ++ (i, oo + q) :: s) := fun q s hq => by
      refine gback_of hG.sep hy ?_
      simp only [Grp.back, true_and]
      rw [if_pos hq]
    have hmem : ∀ q t, (ms.getD j [])[q]? = some t → TR g1 w1 (15000 + j) q [] t (arr'.getD (off + i * sz + (oo + q)) undef) := fun q t hq => by
      have hqn := (List.getElem?_eq_some_iff.1 hq).1
      have hms : ms[j]? = some (ms.getD j []) := by
        rw [List.getD_eq_getElem?_getD] at hq ⊢
        cases hm : ms[j]? with
        | none => rw [hm] at hq; simp at hq
        | some r => rfl
      obtain ⟨b1, k0, arr1, e1, y1, y2, y3⟩ := hx.mems j _ hms
      obtain ⟨y4, y5⟩ := y3 q (.ow t) (by rw [List.getElem?_map, hq]; rfl)
      have l1 := hx.outk _ _ _ _ (by omega) (by omega) (gin_of (ks := ks) (hlab i (oo + q) (by omega) (by omega)) (htoIn q [] (by omega)))
      obtain ⟨rfl, e2⟩ := hx.inj _ _ _ _ _ l1 y4
      rw [a1] at y1; injection y1 with y1; injection y1 with y1 _ _; subst y1
      rw [e2]; exact y5
    have hnew := TR.own (g := gbk gs rs d g1) (w := w1) (r := r) (o := o) p md (setRow rows i oo (ms.getD j [])) b0 off cap sz arr' e hmd a1 (setRow_rows hl (by omega)) (by rw [setRow_len, a2]; exact hs) (by rw [setRow_len]; exact hle') h0 (by rw [setRow_len]; exact hnn)
      (fun i' o' hi' ho' => by
        rw [setRow_len] at hi'
        have l1 := hlab i' o' hi' ho'
        by_cases hin : i' = i ∧ oo ≤ o' ∧ o' < oo + n
        · obtain ⟨rfl, h1, h2⟩ := hin
          obtain ⟨q, rfl⟩ : ∃ q, o' = oo + q := ⟨o' - oo, by omega⟩
          have l2 := hx.outk _ _ _ _ (by omega) (by omega) (gin_of (ks := ks) l1 (htoIn q [] (by omega)))
          exact bk_back hG l2 (hback q [] (by omega))
        · exact (bk_out hx l1 (hto i' o' [] (by omega)) (fun e => by simp only at e; omega)).2)
      (fun i' o' c hgc => by
        rcases setRow_get hl (by omega) hgc with ⟨rfl, m1, m2, m3⟩ | ⟨m1, m2⟩
        · obtain ⟨q, rfl⟩ : ∃ q, o' = oo + q := ⟨o' - oo, by omega⟩
          rw [show oo + q - oo = q by omega] at m3
          have := hmem q c m3
          refine bk_tr hG hx this fun s hs => ?_
          rw [List.nil_append, hback q s (by omega), List.append_assoc]; rfl
        · rw [hlen] at m1
          obtain ⟨hi', ho'⟩ := get2_lt m2 hl
          have hout := bk_out (d := d) hx (hlab i' o' (by omega) ho') (hto i' o' [] m1) (fun e => by simp only at e; omega)
          rw [getD_of_getElem? (a3 _ hout.1)]
          refine (hc i' o' c m2).map hx.step (fun b k hb hn => bk_none hx hb hn) _ fun b k s _ hs hl => ?_
          rw [List.append_assoc] at hl ⊢
          exact bk_out hx hl (hto i' o' s m1) (fun e => by simp only at e; omega))
    rw [setRow_len] at hnew
    exact hnew

theorem bk_ch {pl : Lab} {m o n : Nat} (hy : Grp.ch pl m o n ∈ gs) (hw : GW S (gin gs ks g) w vs.toArray (.ch pl m o n)) (hr : retB S ms hs (.ch pl m o n)) {t0 t' : T} {x : Value} (ht0 : treeAt (S.get pl.1) pl.2.1 = some t0)
    (hu : updG S ms hs pl.2.1 (.ch pl m o n) = some t') (ht : TR g w pl.1 pl.2.1 [] t0 x) : TR (gbk gs rs d g1) w1 pl.1 pl.2.1 [] t' x := by
  obtain ⟨t00, md, sz, rows, e0, hnd, hmd, hr19, hrl, hpre⟩ := hw
  rw [ht0] at e0; injection e0 with e0; subst e0
  obtain ⟨r, oc, p⟩ := pl
  simp only at ht0 hnd hr19 ht ⊢
  simp only [updG, ht0, hnd] at hu
  split at hu
  · rename_i sz' rows' hhid
    simp only [Option.some.injEq] at hu
    subst hu
    simp only [retB, ht0, Option.bind_some, hnd, hhid] at hr
    obtain ⟨rfl, hlen⟩ := hr
    obtain ⟨v1, z1, z2⟩ := TR.zip p [] t0 _ x ht hnd
    rw [List.nil_append] at z1
    refine bk_rest hG hx hy (by omega) (by rw [cov_iff]; exact ⟨rfl, Nat.le_refl _, Nat.lt_succ_self _⟩) (fun s hs hns => ?_) z2 ?_
    · simp only [Grp.to, and_self, if_true]
      split
      · rename_i i' o' q hst
        exact absurd (strip_iff.1 hst) (hns _ (by simp))
      · rfl
    have hpost := (hx.hids _ (hidL_mem hhid)).2 o _ hhid
    rw [show 16000 + m - 16000 = m by omega] at hpost
    cases z1 with
    | fro => exact absurd rfl hmd
    | nil _ _ _ A c _ hc0 =>
      have : rows' = [] := List.eq_nil_of_length_eq_zero (by simp at hrl; omega)
      subst this
      exact .nil _ _ _ _ _ hmd hc0
    | own _ _ _ b0 off cap _ arr e _ hb hl hs hle' h0 hnn hlab hc =>
      have hbd := bnd_ge (md := md) hle'
      obtain ⟨arr', a1, a2, a3⟩ := hx.step.cells hb
      have hlt := lt_of_cells hb
      have hcv : (Grp.ch (r, oc, p) m o n).cov (r, oc) = true := by rw [cov_iff]; exact ⟨rfl, Nat.le_refl _, Nat.lt_succ_self _⟩
      have hto : ∀ i' o' s, n ≤ i' → gto gs (r, oc, p ++ (i', o') :: s) = none := fun i' o' s hne => by
        rw [gto_uniq hG.sep hy hcv]
        have : strip p (p ++ (i', o') :: s) = some ((i', o') :: s) := strip_iff.2 rfl
        simp only [Grp.to, and_self, if_true, this]
        rw [if_neg (by omega)]
      have htoIn : ∀ i' o' s, i' < n → gto gs (r, oc, p ++ (i', o') :: s) = some (16000 + m, o, (i', o') :: s) := fun i' o' s hq => by
        rw [gto_uniq hG.sep hy hcv]
        have : strip p (p ++ (i', o') :: s) = some ((i', o') :: s) := strip_iff.2 rfl
        simp only [Grp.to, and_self, if_true, this]
        rw [if_pos hq]
      have hback : ∀ i' o' s, i' < n → gback gs (16000 + m, o, (i', o') :: s) = some (r, oc, p ++ (i', o') :: s) := fun i' o' s hq => by
        refine gback_of hG.sep hy ?_
        simp only [Grp.back, and_self, if_true]
        rw [if_pos hq]
      rcases Nat.eq_zero_or_pos n with hn0 | hn0
      · have : rows' = [] := List.eq_nil_of_length_eq_zero (by omega)
        subst this
        have hr0 : rows.length = 0 := by omega
        have := TR.own (g := gbk gs rs d g1) (w := w1) (r := r) (o := oc) p md [] b0 off cap sz' arr' e hmd a1 (by simp) (by rw [a2]; rw [hr0] at hs; exact hs) (by simp) h0 (by simp)
          (fun i' o' hi' ho' => (bk_out hx (hlab i' o' (by rw [hr0]; exact hi') ho') (hto i' o' [] (by omega)) (fun e => by simp only at e; omega)).2) (by simp [get2])
        rw [hr0]; exact this
      · generalize (vs.toArray.getD m undef).cells.getD o undef = xx at hpre hpost
        cases hpre with
        | nil => simp at hrl; omega
        | own _ _ _ b2 off2 cap2 _ arr2 e2 _ hb2 hl2 hs2 hle2 h02 hnn2 hlab2 hc2 =>
          have l1 := hlab2 0 0 (by rw [bnd_el]; omega) h02
          have l2 := gin_of (ks := ks) (hlab 0 0 (by omega) h0) (htoIn 0 0 [] hn0)
          rw [List.nil_append] at l1
          obtain ⟨rfl, e3⟩ := gin_inj hG.sep hG.dst h.inj _ _ _ _ _ l1 l2
          have e3 : off2 = off := by omega
          subst e3
          have hpost' : ∃ arr3 e3', w1.heap[b2]? = some (.cells arr3 e3' (0, 0)) ∧ (∀ r ∈ rows', r.length = sz') ∧ (∀ i o', i < rows'.length → o' < sz' → g1 b2 (off2 + i * sz' + o') = some (16000 + m, o, [(i, o')])) ∧
              (∀ i o' c, get2 rows' i o' = some c → TR g1 w1 (16000 + m) o [(i, o')] c (arr3.getD (off2 + i * sz' + o') undef)) := by
            generalize hxx : Value.slice (some ⟨b2, off2, none⟩) rows.length cap2 = xx at hpost
            cases hpost with
            | nil => simp at hlen; omega
            | own _ _ _ b3 off3 cap3 _ arr3 e4 _ hb3 hl3 hs3 hle3 h03 hnn3 hlab3 hc3 =>
              injection hxx with x1 x2 x3
              injection x1 with x1; injection x1 with x1 x4
              subst x1; subst x4
              exact ⟨arr3, e4, hb3, hl3, fun i o' hi ho => by have := hlab3 i o' (by rw [bnd_el]; exact hi) ho; rwa [List.nil_append] at this, fun i o' c hgc => by have := hc3 i o' c hgc; rwa [List.nil_append] at this⟩
          obtain ⟨arr3, e4, hb3, hl3, hlab3, hc3⟩ := hpost'
          rw [a1] at hb3; injection hb3 with hb3; injection hb3 with hb3 _ _; subst hb3
          have hlr : rows'.length = rows.length := by omega
          have := TR.own (g := gbk gs rs d g1) (w := w1) (r := r) (o := oc) p md rows' b2 off2 cap sz' arr' e hmd a1 hl3 (by rw [a2, hlr]; exact hs) (by rw [hlr]; exact hle') h0 (by rw [hlr]; exact hnn)
            (fun i' o' hi' ho' => by
              rw [hlr] at hi'
              by_cases hin : i' < n
              · exact bk_back hG (hlab3 i' o' (by omega) ho') (hback i' o' [] hin)
              · exact (bk_out hx (hlab i' o' hi' ho') (hto i' o' [] (by omega)) (fun e => by simp only at e; omega)).2)
            (fun i' o' c hgc => by
              obtain ⟨hi', ho'⟩ := get2_lt hgc hl3
              refine bk_tr hG hx (hc3 i' o' c hgc) fun s hs => ?_
              rw [List.append_assoc]
              exact hback i' o' s (by omega))
          rw [hlr] at this
          exact this
  · cases hu

theorem bk_cm (hj : jB gs = true) {r o n j q : Nat} (hy : Grp.cm r o n j ∈ gs) (hlo : o ≤ q) (hhi : q < o + n) (hr : retB S ms hs (.cm r o n j)) (hr19 : r < 19000) {t' : T} (hu : updG S ms hs q (.cm r o n j) = some t')
    {b k : Nat} {arr' : Array Value} {e : TypeId} (hl : g b k = some (r, q, [])) (ha : w1.heap[b]? = some (.cells arr' e (0, 0))) : TR (gbk gs rs d g1) w1 r q [] t' (arr'.getD k undef) := by
  have _ := h
  have hlen : (ms.getD j []).length = n := hr
  simp only [updG] at hu
  have hj1 : j < 1000 := by have := List.all_eq_true.1 hj _ hy; simpa using this
  have hms : ms[j]? = some (ms.getD j []) := by
    rw [List.getD_eq_getElem?_getD] at hu ⊢
    cases hm : ms[j]? with
    | none => rw [hm] at hu; simp at hu
    | some r => rfl
  obtain ⟨x, rfl⟩ : ∃ x, q = o + x := ⟨q - o, by omega⟩
  rw [show o + x - o = x by omega] at hu
  have hto : gto gs (r, o + x, []) = some (15000 + j, x, []) := by
    refine gto_of hG.sep hy ?_
    simp only [Grp.to]
    rw [if_pos ⟨trivial, hlo, hhi⟩, show o + x - o = x by omega]
  obtain ⟨b1, k0, arr1, e1, y1, y2, y3⟩ := hx.mems j _ hms
  obtain ⟨y4, y5⟩ := y3 x (.ow t') (by simp only [List.getElem?_map, hu, Option.map_some])
  have l1 := hx.outk _ _ _ _ (by omega) (by omega) (gin_of (ks := ks) hl hto)
  obtain ⟨rfl, e2⟩ := hx.inj _ _ _ _ _ l1 y4
  rw [ha] at y1; injection y1 with y1; injection y1 with y1 _ _; subst y1
  subst e2
  refine bk_tr hG hx y5 fun s hs => ?_
  refine gback_of hG.sep hy ?_
  simp only [Grp.back, List.nil_append, true_and]
  rw [if_pos (by omega)]
end
end Go.Eng

namespace Go.Eng
variable {P : Program} {N : Nat} {w0 : World} {g0 : Ghost} {ar tm : Array Value} {S S' : St} {w w1 : World} {g g1 : Ghost} {gs : List Grp} {ks : List Key} {vs : List Value} {rs : List Rv} {ms : List Row} {hs : List (Nat × Row)} {v : Value} {d : Nat}

def gRoot : Grp → List Nat
  | .cm r _ _ _ => [r]
  | .ce r _ _ _ _ _ _ => [r]
  | .ch l _ _ _ => [l.1]
  | .cs _ _ => []
def gKeys : Grp → List Key
  | .cm r o n _ => (List.range' o n).map fun x => (r, x)
  | .ce r o _ _ _ _ _ => [(r, o)]
  | .ch l _ _ _ => [(l.1, l.2.1)]
  | .cs _ _ => []
theorem gKeys_cov {y : Grp} (hs : y.isS = false) {k : Key} (h : y.cov k = true) : k ∈ gKeys y := by
  rw [cov_iff] at h
  obtain ⟨k1, k2⟩ := k
  cases y with
  | cm r o n j =>
    simp only [Grp.r, Grp.lo, Grp.hi] at h
    simp only [gKeys, List.mem_map, List.mem_range'_1]
    exact ⟨k2, ⟨h.2.1, h.2.2⟩, by rw [h.1]⟩
  | ce r o p i oo n j =>
    simp only [Grp.r, Grp.lo, Grp.hi] at h
    simp only [gKeys, List.mem_singleton, Prod.mk.injEq]
    omega
  | ch l m o n =>
    simp only [Grp.r, Grp.lo, Grp.hi] at h
    simp only [gKeys, List.mem_singleton, Prod.mk.injEq]
    omega
  | cs m o => cases hs
theorem gRoot_iff {y : Grp} {v : Nat} : v ∈ gRoot y ↔ y.isS = false ∧ y.r = v := by
  cases y <;> simp [gRoot, Grp.isS, Grp.r, eq_comm]

/-- The state behind the call: what was lent is as the callee left it. -/
def backL (S : St) (ms : List Row) (hs : List (Nat × Row)) (gs : List Grp) : List Nat → List (Nat × A)
  | [] => S.s
  | r :: l => (r, mapAt (fun o => updF S ms hs r o gs) (S.get r)) :: backL S ms hs gs l
def backS (S : St) (ms : List Row) (hs : List (Nat × Row)) (gs : List Grp) : St := ⟨backL S ms hs gs (gs.flatMap gRoot), gs.flatMap gKeys ++ S.k⟩
theorem backL_get {l : List Nat} {v : Nat} : getL (backL S ms hs gs l) v = if v ∈ l then mapAt (fun o => updF S ms hs v o gs) (S.get v) else S.get v := by
  induction l with
  | nil => simp [backL, St.get]
  | cons r l ih =>
    simp only [backL, getL]
    by_cases e : v = r
    · subst e; simp
    · rw [if_neg e, ih]; simp [e]
theorem backS_get {v : Nat} : (backS S ms hs gs).get v = if v ∈ gs.flatMap gRoot then mapAt (fun o => updF S ms hs v o gs) (S.get v) else S.get v := backL_get
def resS (S : St) (d : Nat) : List Rv → St
  | [.bx row] => S.put (10000 + d) (.mem (row.map .ow))
  | _ => S
theorem resS_k {S : St} {rs : List Rv} : (resS S d rs).k = S.k := by
  unfold resS; split <;> rfl
theorem resS_get {S : St} {rs : List Rv} {v : Nat} : (∃ row, rs = [.bx row] ∧ v = 10000 + d ∧ (resS S d rs).get v = .mem (row.map .ow)) ∨ ((resS S d rs).get v = S.get v ∧ ∀ row, rs = [.bx row] → v ≠ 10000 + d) := by
  unfold resS
  split
  · rename_i row
    by_cases e : v = 10000 + d
    · exact .inl ⟨row, rfl, e, by rw [St.get_put, if_pos e]⟩
    · exact .inr ⟨by rw [St.get_put, if_neg e], fun _ _ => e⟩
  · rename_i hne
    exact .inr ⟨rfl, fun row e => absurd e (hne row)⟩

theorem lamR_some {x l : Lab} (h : lamR rs d x = some l) : (∃ row, rs = [.bx row] ∧ x.1 = 30000 ∧ x.2.1 < row.length ∧ l = (10000 + d, x.2.1, x.2.2)) ∨ ((∀ row, rs ≠ [.bx row]) ∧ l = (19000, 1000 * (x.1 - 30000) + x.2.1, x.2.2) ∧ x.2.2 ≠ [] ∧ x.2.1 < 1000) := by
  unfold lamR at h
  split at h
  · rename_i row
    split at h
    · rename_i hc; injection h with h; exact .inl ⟨row, rfl, hc.1, hc.2, h.symm⟩
    · cases h
  · rename_i hne
    split at h
    · rename_i hc; injection h with h; exact .inr ⟨hne, h.symm, hc.1, hc.2⟩
    · cases h

theorem bxOk_get {row : Row} (hb : bxOk S gs d rs) (e : rs = [.bx row]) : d < 5000 ∧ S.get (10000 + d) = .any ∧ ∀ y ∈ gs, y.r ≠ 10000 + d := by
  subst e
  obtain ⟨h1, h2, h3⟩ := hb
  exact ⟨h1, h2, fun y hy => by have := List.all_eq_true.1 h3 y hy; simpa using this⟩

theorem GW_r {gi : Ghost} {vs : Array Value} {y : Grp} (h : GW S gi w vs y) (hs : y.isS = false) : y.r < 19000 := by
  cases y with
  | cm r o n j => obtain ⟨_, _, _, _, _, h⟩ := h; exact h
  | ce r o p i oo n j => obtain ⟨_, _, _, _, _, _, _, h, _⟩ := h; exact h
  | ch l m o n => obtain ⟨_, _, _, _, _, _, _, h, _⟩ := h; exact h
  | cs m o => cases hs
theorem GW_hasL {gi : Ghost} {vs : Array Value} {y : Grp} (h : GW S gi w vs y) (hs : y.isS = false) {l x : Lab} (ht : y.to l = some x) : hasL (S.get l.1) l.2.1 l.2.2 = true := by
  have hne : ∀ (p q : Path) (z : Nat × Nat), strip p l.2.2 = some (z :: q) → ∃ z' q', l.2.2 = z' :: q' := fun p q z e => by
    rw [strip_iff] at e
    cases hl : l.2.2 with
    | nil => rw [hl] at e; simp at e
    | cons a b => exact ⟨a, b, rfl⟩
  have hfin : ∀ a o, ownAt a o = true → (∃ z' q', l.2.2 = z' :: q') → hasL a o l.2.2 = true := fun a o ho ⟨z, q, e⟩ => by
    rw [e]; cases a <;> exact ho
  cases y with
  | cm r o n j =>
    obtain ⟨R, ts, h1, _, h3, _⟩ := h
    simp only [Grp.to] at ht
    split at ht
    · rename_i hc
      rw [hc.1, h1]
      have hlt : l.2.1 < R.length := by omega
      cases l.2.2 <;> simp [hasL, ownAt, hlt]
    · cases ht
  | ce r o p i oo n j =>
    obtain ⟨t0, md, sz, rows, h1, h2, h3, _⟩ := h
    simp only [Grp.to] at ht
    split at ht
    · rename_i hc
      split at ht
      · rename_i hst
        rw [hc.1, hc.2]
        exact hfin _ _ (treeAt_own h1 (.inl (own_md (rows' := []) h2 h3).1)) (hne _ _ _ hst)
      · cases ht
    · cases ht
  | ch l0 m o n =>
    obtain ⟨t0, md, sz, rows, h1, h2, h3, _⟩ := h
    simp only [Grp.to] at ht
    split at ht
    · rename_i hc
      split at ht
      · rename_i hst
        rw [hc.1, hc.2]
        exact hfin _ _ (treeAt_own h1 (.inl (own_md (rows' := []) h2 h3).1)) (hne _ _ _ hst)
      · cases ht
    · cases ht
  | cs m o => cases hs

section
variable (h : Rel N w0 g0 ar S tm w g) (hG : GOk gs ks) (hx : Exi (gin gs ks g) w g1 w1 vs rs ms hs v) (hw : ∀ y ∈ gs, GW S (gin gs ks g) w vs.toArray y) (hr : retC S ms hs gs) (hj : jB gs = true) (hb : bxOk S gs d rs)
include h hG hx hw hr hj hb

theorem back_inj : ∀ b k b' k' l, gbk gs rs d g1 b k = some l → gbk gs rs d g1 b' k' = some l → b = b' ∧ k = k' := by
  have _ := hr
  have _ := hj
  intro b k b' k' l h1 h2
  have e12 : ∀ {b k b' k'}, (g b k = some l ∧ gto gs l = none ∧ (l.1 = 19000 → l.2.2 = [])) → (∃ x, g1 b' k' = some x ∧ gback gs x = some l) → False := fun a ⟨x, _, c⟩ => by
    obtain ⟨y, hy, hyb⟩ := gback_mem c
    rw [gto_of hG.sep hy (Grp.back_to hyb)] at a
    exact absurd a.2.1 (by simp)
  have e13 : ∀ {b k b' k'}, (g b k = some l ∧ gto gs l = none ∧ (l.1 = 19000 → l.2.2 = [])) → (∃ x, g1 b' k' = some x ∧ 30000 ≤ x.1 ∧ lamR rs d x = some l) → False := fun a ⟨x, _, _, c⟩ => by
    rcases lamR_some c with ⟨row, e, c1, c2, rfl⟩ | ⟨_, rfl, c1, _⟩
    · obtain ⟨q1, q2, _⟩ := bxOk_get hb e
      rcases h.lab _ _ _ a.1 with z | z | z
      · rcases z with z | z <;> simp only at z <;> omega
      · simp only at z; omega
      · rw [q2] at z; have := hasL_own z; cases this
    · exact c1 (a.2.2 rfl)
  have e23 : ∀ {b k b' k'}, (∃ x, g1 b k = some x ∧ gback gs x = some l) → (∃ x, g1 b' k' = some x ∧ 30000 ≤ x.1 ∧ lamR rs d x = some l) → False := fun ⟨x', _, c'⟩ ⟨x, _, _, c⟩ => by
    obtain ⟨y, hy, hyb⟩ := gback_mem c'
    have hs : y.isS = false := by cases y <;> first | rfl | simp [Grp.back] at hyb
    have := (Grp.to_src (Grp.back_to hyb)).1
    have hlt := GW_r (hw y hy) hs
    rcases lamR_some c with ⟨row, e, c1, c2, rfl⟩ | ⟨_, rfl, c1, _⟩
    · obtain ⟨q1, q2, q3⟩ := bxOk_get hb e
      exact q3 y hy this.symm
    · simp only at this; omega
  rcases bk_inv hG hx h1 with a | a | a <;> rcases bk_inv hG hx h2 with a' | a' | a'
  · exact h.inj _ _ _ _ _ a.1 a'.1
  · exact (e12 a a').elim
  · exact (e13 a a').elim
  · exact (e12 a' a).elim
  · obtain ⟨x, c1, c2⟩ := a
    obtain ⟨x', c1', c2'⟩ := a'
    obtain ⟨y, hy, hyb⟩ := gback_mem c2
    obtain ⟨y', hy', hyb'⟩ := gback_mem c2'
    have q1 := gto_of hG.sep hy (Grp.back_to hyb)
    have q2 := gto_of hG.sep hy' (Grp.back_to hyb')
    rw [q1] at q2; injection q2 with q2; subst q2
    exact hx.inj _ _ _ _ _ c1 c1'
  · exact (e23 a a').elim
  · exact (e13 a' a).elim
  · exact (e23 a' a).elim
  · obtain ⟨x, c1, c2, c3⟩ := a
    obtain ⟨x', c1', c2', c3'⟩ := a'
    have : x = x' := by
      obtain ⟨x1, x2, x3⟩ := x
      obtain ⟨y1, y2, y3⟩ := x'
      rcases lamR_some c3 with ⟨row, e, q1, q2, rfl⟩ | ⟨_, rfl, q1, q2⟩ <;> rcases lamR_some c3' with ⟨row', e', q1', q2', q3'⟩ | ⟨hne, q3', q1', q2'⟩
      · simp only [Prod.mk.injEq, true_and] at q1 q1' q3' ⊢
        exact ⟨by omega, q3'⟩
      · exact absurd e (hne row)
      · rename_i hne; exact absurd e' (hne row')
      · simp only [Prod.mk.injEq, true_and] at c2 c2' q2 q2' q3' ⊢
        exact ⟨by omega, by omega, q3'.2⟩
    subst this
    exact hx.inj _ _ _ _ _ c1 c1'

def backD (gs : List Grp) (k : Key) : Prop := (∃ y ∈ gs, y.isS = false ∧ y.cov k = true) ∨ 19000 ≤ k.1

omit h hw hr hj hb in
theorem back_gto {l : Lab} (hl : Sp l ∨ ¬ backD gs (l.1, l.2.1)) : gto gs l = none := by
  have _ := hx
  refine gto_uncov fun y hy => ?_
  cases hc : y.cov (l.1, l.2.1) with
  | false => rfl
  | true =>
    exfalso
    have hrk := (List.all_eq_true.1 hG.rok) y hy
    simp only [decide_eq_true_eq] at hrk
    have hc2 := cov_iff.1 hc
    simp only at hc2
    rcases hl with hl | hl
    · rcases hl with hl | hl <;> omega
    · refine hl ?_
      cases hs : y.isS with
      | false => exact .inl ⟨y, hy, hs, hc⟩
      | true =>
        right
        cases y <;> simp [Grp.isS] at hs
        simp only [Grp.r] at hc2 ⊢
        omega

omit h hw hr hb in
theorem back_chg (hold : ∀ b k l, g b k = some l → b < w.heap.size) : Chg S.k (resS (backS S ms hs gs) d rs).k (backD gs) g (gbk gs rs d g1) w w1 (Wr (gin gs ks g)) where
  st := hx.step
  K := fun k hk => by rw [resS_k]; exact List.mem_append_right _ hk
  DK := fun k hk => by
    rcases hk with ⟨y, hy, h1, h2⟩ | hk
    · left; rw [resS_k]
      exact List.mem_append_left _ (List.mem_flatMap.2 ⟨y, hy, gKeys_cov h1 h2⟩)
    · exact .inr hk
  old := hold
  none := fun b k hb hn => bk_none hx hb hn
  un := fun b k l hl hu => bk_out hx hl (back_gto hG hx hu) fun e => by
    rcases hu with hu | hu
    · rcases hu with hu | hu <;> omega
    · exact absurd (.inr (by simp only; omega)) hu
  root := fun b k r o hl => bk_root hG hx hj hl

/-- The frame behind the call; results stand ready (19000), new memory has its root. -/
theorem back_rel (hbxm : ∀ row, rs = [.bx row] → ∃ k0 b arr e, w1.heap[b]? = some (.cells arr e (0, 0)) ∧ k0 + row.length ≤ arr.size ∧ ∀ o t, row[o]? = some t → g1 b (k0 + o) = some (30000, o, []) ∧ TR g1 w1 30000 o [] t (arr.getD (k0 + o) undef)) :
    Rel N w0 g0 ar (resS (backS S ms hs gs) d rs) tm w1 (gbk gs rs d g1) := by
  have hchg := back_chg (S := S) (d := d) (rs := rs) hG hx hj h.old
  have hgm : ∀ {v}, v ∈ gs.flatMap gRoot → ∃ y ∈ gs, y.isS = false ∧ y.r = v := fun {v} hv => by
    obtain ⟨y, hy, hy2⟩ := List.mem_flatMap.1 hv
    exact ⟨y, hy, gRoot_iff.1 hy2⟩
  have hupd : ∀ {v o t}, updF S ms hs v o gs = some t → ownC (.ow t) = true ∨ ∃ row, S.get v = .mem row := fun {v o t} hu => by
    obtain ⟨y, hy, hs1, hc, hu2⟩ := updF_some hu
    have hwy := hw y hy
    have hcv := cov_iff.1 hc
    cases y with
    | cm r o' n j =>
      obtain ⟨R, ts, e, _⟩ := hwy
      simp only [Grp.r] at hcv
      rw [hcv.1]; exact .inr ⟨R, e⟩
    | ce r o' p i oo n j =>
      obtain ⟨t0, md, sz, rows, e1, e2, e3, _⟩ := hwy
      simp only [updG, e1, e2, Option.some.injEq] at hu2
      subst hu2
      exact .inl (own_md e2 e3).2
    | ch l m o' n =>
      obtain ⟨t0, md, sz, rows, e1, e2, e3, _⟩ := hwy
      simp only [updG, e1, e2] at hu2
      split at hu2
      · simp only [Option.some.injEq] at hu2; subst hu2; exact .inl (own_md e2 e3).2
      · cases hu2
    | cs m o' => cases hs1
  have hlabS : ∀ l : Lab, hasL (S.get l.1) l.2.1 l.2.2 = true → hasL ((resS (backS S ms hs gs) d rs).get l.1) l.2.1 l.2.2 = true := fun l hl => by
    rcases resS_get (S := backS S ms hs gs) (d := d) (rs := rs) (v := l.1) with ⟨row, e, q1, q2⟩ | ⟨q1, q2⟩
    · obtain ⟨_, z, _⟩ := bxOk_get hb e
      rw [q1, z] at hl
      have := hasL_own hl; cases this
    · rw [q1, backS_get]
      split
      · exact mapAt_hasL (fun t ht => hupd ht) hl
      · exact hl
  refine h.chg hchg h.size (fun b k hb' ⟨l, hl, hn⟩ => ?_) (fun b k l hs' hl => ?_) (back_inj h hG hx hw hr hj hb) (fun b k l hl => ?_) (fun b k l hl => ?_) (fun v hv => ?_) (fun v row hv => ?_) (fun v => ?_)
  · obtain ⟨l0, a1, a2⟩ := gin_some hl
    refine ⟨l0, a1, fun hsp => ?_⟩
    have := back_gto hG hx (.inl hsp)
    rcases a2 with a2 | ⟨_, ⟨e, _⟩ | e⟩
    · rw [this] at a2; cases a2
    · exact hn (by rw [e]; exact .inr rfl)
    · exact hn (by rw [e]; exact .inl rfl)
  · rcases bk_inv hG hx hl with a | ⟨x, _, c⟩ | ⟨x, _, _, c⟩
    · exact a.1
    · exfalso
      obtain ⟨y, hy, hyb⟩ := gback_mem c
      have hrk := (List.all_eq_true.1 hG.rok) y hy
      simp only [decide_eq_true_eq] at hrk
      have := (Grp.to_src (Grp.back_to hyb)).1
      rcases hs' with hs' | hs' <;> omega
    · exfalso
      rcases lamR_some c with ⟨row, e, c1, c2, rfl⟩ | ⟨_, rfl, c1, _⟩
      · obtain ⟨q1, _⟩ := bxOk_get hb e
        rcases hs' with hs' | hs' <;> simp only at hs' <;> omega
      · rcases hs' with hs' | hs' <;> simp only at hs' <;> omega
  · obtain ⟨x, h1, _⟩ := gren_some hl
    exact hx.old _ _ _ h1
  · rcases bk_inv hG hx hl with a | ⟨x, _, c⟩ | ⟨x, _, _, c⟩
    · rcases h.lab _ _ _ a.1 with z | z | z
      · exact .inl z
      · exact .inr (.inl z)
      · exact .inr (.inr (hlabS l z))
    · obtain ⟨y, hy, hyb⟩ := gback_mem c
      have hs' : y.isS = false := by cases y <;> first | rfl | simp [Grp.back] at hyb
      exact .inr (.inr (hlabS l (GW_hasL (hw y hy) hs' (Grp.back_to hyb))))
    · rcases lamR_some c with ⟨row, e, c1, c2, rfl⟩ | ⟨_, rfl, c1, _⟩
      · right; right
        subst e
        simp only [resS]
        rw [St.get_put, if_pos rfl]
        cases x.2.2 <;> simp [hasL, ownAt, c2]
      · exact .inr (.inl (Nat.le_refl _))
  · rcases resS_get (S := backS S ms hs gs) (d := d) (rs := rs) (v := v) with ⟨row, e, q1, q2⟩ | ⟨q1, q2⟩
    · obtain ⟨z, _⟩ := bxOk_get hb e; omega
    · rw [q1, backS_get, if_neg]
      · exact h.hi v hv
      · intro hm
        obtain ⟨y, hy, hs', e⟩ := hgm hm
        have := GW_r (hw y hy) hs'; omega
  · rcases resS_get (S := backS S ms hs gs) (d := d) (rs := rs) (v := v) with ⟨row', e, q1, q2⟩ | ⟨q1, q2⟩
    · omega
    · rw [q1, backS_get]
      split
      · exact mapAt_mem (h.slot v · hv) row
      · exact h.slot v row hv
  · rcases resS_get (S := backS S ms hs gs) (d := d) (rs := rs) (v := v) with ⟨row', e, q1, q2⟩ | ⟨q1, q2⟩
    · right
      rw [q2, q1]
      obtain ⟨k0, b, arr, e', m1, m2, m3⟩ := hbxm row' e
      refine ⟨b, k0, arr, e', m1, by simpa using m2, fun o c hc => ?_⟩
      simp only [List.getElem?_map, Option.map_eq_some_iff] at hc
      obtain ⟨t, ht, rfl⟩ := hc
      obtain ⟨n1, n2⟩ := m3 o t ht
      have hlt := (List.getElem?_eq_some_iff.1 ht).1
      have hlam : ∀ q, lam gs rs d (30000, o, q) = some (10000 + d, o, q) := fun q => by
        subst e
        simp only [lam]
        rw [if_neg (by omega), if_pos (Nat.le_refl _)]
        simp only [lamR]
        rw [if_pos ⟨trivial, hlt⟩]
      refine ⟨gren_of n1 (hlam []), ?_⟩
      exact TR.map n2 (Step.refl (fun _ _ => False) w1) (fun b k _ hn => ⟨fun h => h, gren_none hn⟩) [] fun b k q _ hq hl => ⟨fun h => h, gren_of hl (hlam _)⟩
    · rw [q1, backS_get]
      by_cases hm : v ∈ gs.flatMap gRoot
      · right
        rw [if_pos hm]
        obtain ⟨y0, hy0, hs0, e0⟩ := hgm hm
        have hv19 : v < 19000 := by have := GW_r (hw y0 hy0) hs0; omega
        have htr : ∀ o t', updF S ms hs v o gs = some t' → ∃ t, treeAt (S.get v) o = some t ∧ ∀ x, (∀ row, S.get v ≠ .mem row) ∨ (∃ b k arr arr' e, g b k = some (v, o, []) ∧ x = arr.getD k undef ∧ w.heap[b]? = some (.cells arr e (0, 0)) ∧ w1.heap[b]? = some (.cells arr' e (0, 0)) ∧ arr'[k]? = arr[k]?) ∨ True → True := fun o t' hu => by
          obtain ⟨y, hy, hs1, hc, hu2⟩ := updF_some hu
          have hwy := hw y hy
          have hcv := cov_iff.1 hc
          cases y with
          | cm r o' n j =>
            obtain ⟨R, ts, e, e2, e3, _⟩ := hwy
            simp only [Grp.r, Grp.lo, Grp.hi] at hcv
            rw [hcv.1, e]
            have hlt : o < R.length := by omega
            have := rowT_get e2
            have h5 : ((R.drop o').take n)[o - o']? = R[o]? := by
              rw [List.getElem?_take, if_pos (by omega), List.getElem?_drop, show o' + (o - o') = o by omega]
            rw [this] at h5
            rw [List.getElem?_map] at h5
            rw [List.getElem?_eq_getElem hlt] at h5
            simp only [Option.map_eq_some_iff] at h5
            obtain ⟨t, _, ht⟩ := h5
            exact ⟨t, by simp only [treeAt, List.getElem?_eq_getElem hlt, Option.bind_some, ← ht, clT], fun _ _ => trivial⟩
          | ce r o' p i oo n j =>
            obtain ⟨t0, md, sz, rows, e1, _⟩ := hwy
            simp only [Grp.r, Grp.lo, Grp.hi] at hcv
            have : o = o' := by omega
            rw [hcv.1, this]; exact ⟨t0, e1, fun _ _ => trivial⟩
          | ch l m o' n =>
            obtain ⟨t0, md, sz, rows, e1, _⟩ := hwy
            simp only [Grp.r, Grp.lo, Grp.hi] at hcv
            have : o = l.2.1 := by omega
            rw [hcv.1, this]; exact ⟨t0, e1, fun _ _ => trivial⟩
          | cs m o' => cases hs1
        have hcell : ∀ o t t' x, updF S ms hs v o gs = some t' → treeAt (S.get v) o = some t → TR g w v o [] t x → (∀ y ∈ gs, y.cov (v, o) = true → ∀ r o' n j, y ≠ .cm r o' n j) → TR (gbk gs rs d g1) w1 v o [] t' x := fun o t t' x hu ht htr hncm => by
          obtain ⟨y, hy, hs1, hc, hu2⟩ := updF_some hu
          have hwy := hw y hy
          have hry := retC_mem hr hy
          have hcv := cov_iff.1 hc
          cases y with
          | cm r o' n j => exact absurd rfl (hncm _ hy hc r o' n j)
          | ce r o' p i oo n j =>
            simp only [Grp.r, Grp.lo, Grp.hi] at hcv
            obtain rfl : o = o' := by omega
            obtain ⟨rfl, _⟩ := hcv
            exact bk_ce h hG hx hj hy hwy hry ht hu2 htr
          | ch l m o' n =>
            simp only [Grp.r, Grp.lo, Grp.hi] at hcv
            obtain rfl : o = l.2.1 := by omega
            obtain ⟨rfl, _⟩ := hcv
            exact bk_ch h hG hx hy hwy hry ht hu2 htr
          | cs m o' => cases hs1
        refine (h.vars v).up hchg (fun o hd ho => ?_) (fun o t' hu => ?_) (fun hnm o t t' x hu ht htr => ?_) (fun row hrow o t t' hu ht b k arr arr' e hl hk m1 m2 htr => ?_)
        · rcases hd with ⟨y, hy, hs1, hc⟩ | hd
          · rw [updF_of hG.sep hy hs1 hc]
            have hwy := hw y hy
            have hry := retC_mem hr hy
            have hcv := cov_iff.1 hc
            cases y with
            | cm r o' n j =>
              simp only [Grp.r, Grp.lo, Grp.hi] at hcv
              have hlen : (ms.getD j []).length = n := hry
              exact ⟨_, List.getElem?_eq_getElem (show o - o' < (ms.getD j []).length by omega)⟩
            | ce r o' p i oo n j =>
              obtain ⟨t0, md, sz, rows, e1, e2, _⟩ := hwy
              simp only [updG, e1, e2]
              exact ⟨_, rfl⟩
            | ch l m o' n =>
              obtain ⟨t0, md, sz, rows, e1, e2, _⟩ := hwy
              simp only [retB, e1, Option.bind_some, e2] at hry
              simp only [updG, e1, e2]
              split at hry
              · rename_i q1 q2
                injection q1 with q1
                rw [q2]; exact ⟨_, rfl⟩
              · exact hry.elim
            | cs m o' => cases hs1
          · simp only at hd; omega
        · obtain ⟨t, ht, _⟩ := htr o t' hu
          exact ⟨t, ht⟩
        · refine hcell o t t' x hu ht htr fun y hy hc r o' n j e => ?_
          subst e
          obtain ⟨R, ts, e, _⟩ := hw _ hy
          have hcv := (cov_iff.1 hc).1
          simp only [Grp.r] at hcv
          exact hnm R (by rw [hcv]; exact e)
        · obtain ⟨y, hy, hs1, hc, hu2⟩ := updF_some hu
          cases y with
          | cm r o' n j =>
            have hcv := cov_iff.1 hc
            simp only [Grp.r, Grp.lo, Grp.hi] at hcv
            obtain ⟨rfl, hlo, hhi⟩ := hcv
            obtain ⟨R, ts, _, _, _, hr19⟩ := hw _ hy
            exact bk_cm h hG hx hj hy hlo hhi (retC_mem hr hy) hr19 hu2 hl m2
          | _ =>
            have hnw : gto gs (v, o, []) = none := by
              rw [gto_uniq hG.sep hy (l := (v, o, [])) hc]
              have hcv := cov_iff.1 hc
              first
              | (simp only [Grp.to]
                 split
                 · split
                   · rename_i hst
                     rw [strip_iff] at hst
                     simp at hst
                   · rfl
                 · rfl)
              | cases hs1
            have hnwr := (bk_out (d := d) hx hl hnw (fun _ => rfl)).1
            obtain ⟨arr2, z1, z2, z3⟩ := hx.step.cells m1
            rw [m2] at z1; injection z1 with z1; injection z1 with z1 _ _; subst z1
            rw [getD_of_getElem? (z3 _ hnwr)]
            refine hcell o t t' _ hu ht htr fun y' hy' hc' r o' n j e => ?_
            have := cov_uniq hG.sep hy hy' hc hc'
            rw [e] at this; cases this
      · left
        rw [if_neg hm]
        refine ⟨rfl, rfl, fun o ho hd => ?_⟩
        rcases hd with ⟨y, hy, hs1, hc⟩ | hd
        · exact hm (List.mem_flatMap.2 ⟨y, hy, gRoot_iff.2 ⟨hs1, (cov_iff.1 hc).1.symm⟩⟩)
        · simp only at hd
          rw [h.hi v hd] at ho; cases ho
end
end Go.Eng

namespace Go.Eng
variable {P : Program} {G : Glob} {N : Nat} {w0 : World} {g0 : Ghost} {ar tm : Array Value} {S S' : St} {w w1 : World} {g g1 : Ghost} {gs : List Grp} {ks : List Key} {vs : List Value} {rs : List Rv} {ms : List Row} {hs : List (Nat × Row)} {v : Value} {d : Nat}

/-- A view among the results reads what was handed over to be read. -/
def ksC (ks : List Key) : Cl → Cl
  | .vw _ _ t => .vw none ks t
  | c => c
def roB : List Cl → Bool
  | [] => true
  | .ow _ :: l => roB l
  | .vw none [] _ :: l => roB l
  | .vw _ _ _ :: _ => false
theorem roB_mem {row : List Cl} (h : roB row = true) {pl : Option (Lab × Nat)} {ks : List Key} {t : T} (hm : Cl.vw pl ks t ∈ row) : pl = none ∧ ks = [] := by
  induction row with
  | nil => cases hm
  | cons c l ih =>
    cases c with
    | ow t' =>
      simp only [roB] at h
      rcases List.mem_cons.1 hm with e | hm
      · cases e
      · exact ih h hm
    | vw pl' ks' t' =>
      cases pl' with
      | some x => cases h
      | none =>
        cases ks' with
        | cons a b => cases h
        | nil =>
          simp only [roB] at h
          rcases List.mem_cons.1 hm with e | hm
          · injection e with e1 e2 e3; exact ⟨e1, e2⟩
          · exact ih h hm
def rvB : List Rv → Bool
  | [] => true
  | .v _ row :: l => roB row && decide (row.length ≤ 1000) && rvB l
  | .bx _ :: _ => false
def rvRows (ks : List Key) : List Rv → List (Bool × List Cl)
  | [] => []
  | .v agg row :: l => (agg, row.map (ksC ks)) :: rvRows ks l
  | .bx _ :: l => (false, []) :: rvRows ks l
/-- The state behind the call, results in their slot. -/
def callOut (S1 : St) (d : Option Nat) (cs : List CIn) (rs : List Rv) (ms : List Row) (hs : List (Nat × Row)) : Option St :=
  match d, rs with
  | none, rs => if rvB rs then some (backS S1 ms hs (csG cs)) else none
  | some d, [.bx row] => some (((backS S1 ms hs (csG cs)).put (10000 + d) (.mem (row.map .ow))).set d (.pr (10000 + d) 0))
  | some d, [.v agg row] => if rvB [.v agg row] then some ((backS S1 ms hs (csG cs)).set d (.val agg (row.map (ksC (csK cs))))) else none
  | some d, rs => if rvB rs then some ((backS S1 ms hs (csG cs)).set d (.tup (rvRows (csK cs) rs))) else none

section
variable (h : Rel N w0 g0 ar S tm w g) (hG : GOk gs ks) (hx : Exi (gin gs ks g) w g1 w1 vs rs ms hs v)
include hG hx

theorem res_cl (hne : ∀ row, rs ≠ [.bx row]) {K' : List Key} {m o : Nat} (ho : o < 1000) {c : Cl} {x : Value} (hc : ClR [] g1 w1 (30000 + m) o c x) (hro : ∀ pl ks' t, c = .vw pl ks' t → pl = none ∧ ks' = []) : ClR K' (gbk gs rs d g1) w1 19000 (1000 * m + o) (ksC ks c) x := by
  cases c with
  | ow t =>
    refine TR.map hc (Step.refl (fun _ _ => False) w1) (fun b k _ hn => ⟨fun h => h, gren_none hn⟩) [] fun b k q _ hq hl => ⟨fun h => h, gren_of hl ?_⟩
    simp only [lam]
    rw [if_neg (by omega), if_pos (by omega)]
    unfold lamR
    split
    · rename_i row; exact absurd rfl (hne row)
    · simp only [List.nil_append]
      rw [if_pos ⟨hq, ho⟩, show 30000 + m - 30000 = m by omega]
  | vw pl ks' t =>
    obtain ⟨rfl, rfl⟩ := hro pl ks' t rfl
    refine ⟨hc.1, fun _ => ⟨?_, by simp⟩⟩
    refine (hc.2 (fun k hk => by cases hk)).1.map (Step.refl (fun _ _ => False) w1) fun b k _ hl => ⟨fun h => h, ?_⟩
    rcases hl with hl | ⟨y, h1, h2⟩
    · exact .inl (gren_none hl)
    · have h2 : y.1 = 20002 := by rcases h2 with h2 | h2; exact h2; cases h2
      obtain ⟨l0, a1, a2⟩ := gin_some ((hx.sp b k y (.inr h2)).2 h1)
      rcases a2 with a2 | ⟨_, ⟨e, a3⟩ | e⟩
      · have := gto_dst hG.dst a2; omega
      · cases hd : dec y with
        | none =>
          left
          show (g1 b k).bind (lam gs rs d) = none
          rw [h1]
          simp only [Option.bind_some, lam]
          rw [if_pos (.inr h2)]; exact hd
        | some m' =>
          have hd' := hd
          rw [e] at hd'
          obtain ⟨rfl, _⟩ := dec_some hd'
          refine .inr ⟨m', gren_of h1 ?_, a3⟩
          simp only [lam]
          rw [if_pos (.inr h2)]; exact hd
      · rw [e] at h2; simp [enc] at h2

theorem res_val (hne : ∀ row, rs ≠ [.bx row]) {K' : List Key} {m : Nat} {agg : Bool} {row : List Cl} {x : Value} (hc : ValR [] g1 w1 (30000 + m) 0 agg row x) (hro : roB row = true) (hl : row.length ≤ 1000) : ValR K' (gbk gs rs d g1) w1 19000 (1000 * m) agg (row.map (ksC ks)) x := by
  obtain ⟨q1, q2⟩ := hc.cells
  refine ValR.of_cells ?_ (by simpa using q1) fun o c hcc => ?_
  · rcases hc.shape with hh | ⟨h1, h2⟩
    · exact .inl hh
    · exact .inr ⟨h1, by simpa using h2⟩
  · simp only [List.getElem?_map, Option.map_eq_some_iff] at hcc
    obtain ⟨c0, h0, rfl⟩ := hcc
    have := q2 o c0 h0
    rw [Nat.zero_add] at this
    have hlt := (List.getElem?_eq_some_iff.1 h0).1
    exact res_cl hG hx hne (by omega) this fun pl ks' t e => by subst e; exact roB_mem hro (List.mem_of_getElem? h0)
end

theorem rvB_get : ∀ {rs : List Rv}, rvB rs = true → ∀ (m : Nat) (r : Rv), rs[m]? = some r → ∃ agg row, r = Rv.v agg row ∧ roB row = true ∧ row.length ≤ 1000 := by
  intro rs
  induction rs with
  | nil => intro _ m r hm; simp at hm
  | cons x l ih =>
    intro h m r hm
    cases x with
    | bx row => cases h
    | v agg row =>
      simp only [rvB, Bool.and_eq_true, decide_eq_true_eq] at h
      cases m with
      | zero => simp at hm; subst hm; exact ⟨agg, row, rfl, h.1.1, h.1.2⟩
      | succ m => exact ih h.2 m r (by simpa using hm)
theorem rvRows_get {ks : List Key} : ∀ {rs : List Rv} {m : Nat} {agg : Bool} {row : List Cl}, rvB rs = true → (rvRows ks rs)[m]? = some (agg, row) → ∃ row0, rs[m]? = some (.v agg row0) ∧ row = row0.map (ksC ks) := by
  intro rs
  induction rs with
  | nil => intro m agg row _ hm; simp [rvRows] at hm
  | cons x l ih =>
    intro m agg row h hm
    cases x with
    | bx row => cases h
    | v agg' row' =>
      simp only [rvB, Bool.and_eq_true] at h
      cases m with
      | zero =>
        simp only [rvRows, List.getElem?_cons_zero, Option.some.injEq, Prod.mk.injEq] at hm
        obtain ⟨rfl, rfl⟩ := hm
        exact ⟨row', rfl, rfl⟩
      | succ m => simp only [rvRows, List.getElem?_cons_succ] at hm ⊢; exact ih h.2 hm
theorem rvRows_len {ks : List Key} : ∀ (rs : List Rv), (rvRows ks rs).length = rs.length := by
  intro rs
  induction rs with
  | nil => rfl
  | cons x l ih => cases x <;> simp [rvRows, ih]
theorem rvB_nobx (h : rvB rs = true) : ∀ row, rs ≠ [.bx row] := by rintro row rfl; cases h
theorem resS_id {d : Nat} (h : rvB rs = true) : resS S d rs = S := by
  unfold resS; split
  · cases h
  · rfl

/-- What behind the call stands, is put into its slot. -/
theorem callOut_sound (h : Rel N w0 g0 ar S tm w g) {cs : List CIn} (hG : GOk (csG cs) (csK cs)) {dd : Option Nat} (hdd : ∀ d, dd = some d → d < N ∧ d < 5000) (hx : Exi (gin (csG cs) (csK cs) g) w g1 w1 vs rs ms hs v) (hw : ∀ y ∈ csG cs, GW S (gin (csG cs) (csK cs) g) w vs.toArray y) (hr : retC S ms hs (csG cs)) (hj : jB (csG cs) = true)
    (hb : bxOk S (csG cs) (dd.getD 4999) rs) (he : callOut S dd cs rs ms hs = some S') : ∃ g', Rel N w0 g0 ar S' (match dd with | some d => tm.setIfInBounds d v | none => tm) w1 g' := by
  have hbxm : ∀ row, rs = [.bx row] → ∃ k0 b arr e, w1.heap[b]? = some (.cells arr e (0, 0)) ∧ k0 + row.length ≤ arr.size ∧ (∀ o t, row[o]? = some t → g1 b (k0 + o) = some (30000, o, []) ∧ TR g1 w1 30000 o [] t (arr.getD (k0 + o) undef)) := fun row e => by
    subst e
    obtain ⟨b, k, _, _, _, hm⟩ := hx.res
    obtain ⟨b1, k0, arr, e, m1, m2, m3⟩ := hm
    refine ⟨k0, b1, arr, e, m1, by simpa using m2, fun o t ht => ?_⟩
    exact m3 o (.ow t) (by simp [ht])
  have hrel := back_rel h hG hx hw hr hj hb hbxm
  unfold callOut at he
  split at he
  · rename_i rs'
    split at he
    · rename_i hrv
      injection he with he; subst he
      rw [resS_id hrv] at hrel
      exact ⟨_, hrel⟩
    · cases he
  · rename_i d row
    injection he with he; subst he
    obtain ⟨h1, h2⟩ := hdd d rfl
    simp only [Option.getD_some] at hrel hb
    obtain ⟨b, k, hv, hlab, hpos, _⟩ := hx.res
    have hg2 : gbk (csG cs) [.bx row] d g1 b k = some (10000 + d, 0, []) := gren_of hlab (by
      simp only [lam]
      rw [if_neg (by omega), if_pos (by omega)]
      simp only [lamR]
      rw [if_pos ⟨trivial, hpos⟩])
    obtain ⟨g', k1, _⟩ := hrel.put h1 (by omega) (a := .pr (10000 + d) 0) (v := v) (by simp) (by simp [ownAt]) ⟨b, k, by rw [getD_set_self (by rw [hrel.size]; exact h1)]; exact hv, hg2⟩
    exact ⟨g', k1⟩
  · rename_i d agg row
    split at he
    · rename_i hrv
      injection he with he; subst he
      obtain ⟨h1, h2⟩ := hdd d rfl
      rw [resS_id hrv] at hrel
      simp only [rvB, Bool.and_eq_true, decide_eq_true_eq] at hrv
      have hres : ValR [] g1 w1 (30000 + 0) 0 agg row v := hx.res
      have := res_val (d := (some d).getD 4999) (K' := (backS S ms hs (csG cs)).k) hG hx (by simp) hres hrv.1.1 hrv.1.2
      obtain ⟨g', k1, _⟩ := hrel.putRow h1 (by omega) this
      exact ⟨g', k1⟩
    · cases he
  · rename_i _ d hn1 hn2
    split at he
    · rename_i hrv
      injection he with he; subst he
      obtain ⟨h1, h2⟩ := hdd d rfl
      rw [resS_id hrv] at hrel
      have hres : ∃ xs, v = .tuple xs ∧ xs.size = rs.length ∧ ∀ m r, rs[m]? = some r → RvR g1 w1 m r (xs.getD m undef) := by
        have := hx.res
        unfold ResR at this
        split at this
        · rename_i r
          cases r with
          | v agg row => exact absurd rfl (hn2 agg row)
          | bx row => exact absurd rfl (hn1 row)
        · exact this
      obtain ⟨xs, hv, hsz, hget⟩ := hres
      have hval : ∀ m agg row, (rvRows (csK cs) rs)[m]? = some (agg, row) → row.length ≤ 1000 ∧ ValR (backS S ms hs (csG cs)).k (gbk (csG cs) rs ((some d).getD 4999) g1) w1 19000 (1000 * m) agg row (xs.getD m undef) := fun m agg row hm => by
        obtain ⟨row0, q1, rfl⟩ := rvRows_get hrv hm
        obtain ⟨agg', row', e, q2, q3⟩ := rvB_get hrv m _ q1
        injection e with e1 e2; subst e1; subst e2
        exact ⟨by simpa using q3, res_val hG hx (rvB_nobx hrv) (hget m _ q1) q2 q3⟩
      have := hrel.putG (base := 0) (n := 1000 * rs.length) (ow := ownAt (.tup (rvRows (csK cs) rs))) (a := .tup (rvRows (csK cs) rs)) (v := v) h1 (by omega) (by simp) (fun j _ hj => hj) fun g' hg' hchg => by
        subst hg'
        simp only [VarR, getD_set_self (show d < tm.size by rw [hrel.size]; exact h1)]
        refine ⟨xs, hv, by rw [rvRows_len]; exact hsz, fun m agg row hm => ?_⟩
        obtain ⟨q1, q2⟩ := hval m agg row hm
        refine ⟨q1, ?_⟩
        obtain ⟨z1, z2⟩ := q2.cells
        refine ValR.of_cells q2.shape z1 fun o c hc => ?_
        have hol := (List.getElem?_eq_some_iff.1 hc).1
        have hml : m < rs.length := by rw [← rvRows_len (ks := csK cs)]; exact (List.getElem?_eq_some_iff.1 hm).1
        have hcl := z2 o c hc
        have e1 : (1000 * m + o) / 1000 = m := by omega
        have e2 : (1000 * m + o) % 1000 = o := by omega
        cases c with
        | vw pl ks' t => exact ClR.chg (r := d) (o := 1000 * m + o) hcl hchg (by simp [ownC])
        | ow t =>
          cases hp : ownC (.ow t) with
          | false => exact TR.elsewhere hcl hchg.st hchg.none hp
          | true =>
            refine TR.map hcl hchg.st hchg.none _ fun b k q _ hq hg => ⟨fun h => h, gren_of hg ?_⟩
            have := plL_mv (base := 0) (n := 1000 * rs.length) (ow := ownAt (.tup (rvRows (csK cs) rs))) (δ := fun j => (d, j, [])) (drop := ofSlot d) (j := 1000 * m + o) (q := q) (by omega) hq (by simp [ownAt, e1, e2, hm, hc, hp])
            rw [Nat.zero_add] at this
            simpa [app3] using this
      obtain ⟨g', k1, _⟩ := this
      exact ⟨g', k1⟩
    · cases he
end Go.Eng

namespace Go.Eng
variable {P : Program} {G : Glob} {N : Nat} {w0 : World} {g0 : Ghost} {ar tm : Array Value} {S S' : St} {w w1 : World} {g g1 : Ghost} {K : St → Prop} {o : Oper} {a : Act} {Q : Exit → Act → World → Prop}

theorem lnRow_inv2 {m : Nat} : ∀ (l : List Cl) (o : Nat) (cs : List Cl) (ts : Row) (gs' : List Grp) (ks' : List Key), lnRow S m o l = some (cs, ts, gs', ks') →
    ∀ y ∈ gs', ∃ j pl t0 md sz rows, y = .ch pl m (o + j) rows.length ∧ ts[j]? = some (.sl .el sz rows) ∧ treeAt (S.get pl.1) pl.2.1 = some t0 ∧ ndT pl.2.2 t0 = some (.sl md sz rows) ∧ md ≠ .fro ∧ pl.1 < 19000 := by
  intro l
  induction l with
  | nil =>
    intro o cs ts gs' ks' he
    simp only [lnRow, Option.some.injEq, Prod.mk.injEq] at he
    obtain ⟨rfl, rfl, rfl, rfl⟩ := he
    simp
  | cons c l ih =>
    intro o cs ts gs' ks' he y hy
    simp only [lnRow] at he
    split at he
    · cases he
    · rename_i cs1 ts1 gs1 ks1 h1
      have hrec : ∀ t, y ∈ gs1 → ∃ j pl t0 md sz rows, y = .ch pl m (o + j) rows.length ∧ (t :: ts1 : Row)[j]? = some (.sl .el sz rows) ∧ treeAt (S.get pl.1) pl.2.1 = some t0 ∧ ndT pl.2.2 t0 = some (.sl md sz rows) ∧ md ≠ .fro ∧ pl.1 < 19000 := fun t hy => by
        obtain ⟨j, pl, t0, md, sz, rows, q1, q2, q3⟩ := ih (o + 1) _ _ _ _ h1 y hy
        exact ⟨j + 1, pl, t0, md, sz, rows, by rw [q1, show o + 1 + j = o + (j + 1) by omega], by simpa using q2, q3⟩
      split at he
      · simp only [Option.some.injEq, Prod.mk.injEq] at he
        obtain ⟨rfl, rfl, rfl, rfl⟩ := he
        exact hrec _ hy
      · split at he
        · rename_i md2 sz2 rows2 hnd
          split at he
          · rename_i hc
            simp only [Option.some.injEq, Prod.mk.injEq] at he
            obtain ⟨rfl, rfl, rfl, rfl⟩ := he
            rcases List.mem_cons.1 hy with rfl | hy
            · simp only [Option.bind_eq_some_iff] at hnd
              obtain ⟨t0, ht0, hnd⟩ := hnd
              obtain ⟨hm, rfl, hlen, _, hlt⟩ := hc
              exact ⟨0, _, t0, _, _, _, rfl, rfl, ht0, hnd, hm, hlt⟩
            · exact hrec _ hy
          · cases he
        · cases he
      · cases he
theorem argIn_gw {gi : Ghost} {vs : Array Value} {m j : Nat} {x : Arg} {pre : Option (Bool × List Cl)} {q : CIn} (he : argIn S m j x pre = some q) (hc : q.c) (hH : ∀ y ∈ q.hid, VarR [] gi w vs vs (16000 + y.1) (.hid y.2)) : ∀ y ∈ q.gs, GW S gi w vs y := by
  cases x with
  | mv x =>
    cases pre with
    | none => simp [argIn] at he
    | some p =>
      obtain ⟨agg, row⟩ := p
      simp only [argIn] at he
      injection he with he; subst he
      intro y hy
      obtain ⟨oo, c, h1, h2, rfl⟩ := sGrps_inv hy
      trivial
  | rd x =>
    simp only [argIn] at he
    repeat' split at he
    all_goals first | (injection he with he; subst he; simp) | cases he
  | rp x n =>
    simp only [argIn] at he
    repeat' split at he
    all_goals first | (injection he with he; subst he; simp) | cases he
  | pt x n =>
    simp only [argIn] at he
    split at he
    · split at he
      · rename_i R hR
        split at he
        · rename_i ts hts
          split at he
          · rename_i hr
            injection he with he; subst he
            intro y hy
            simp at hy; subst hy
            obtain ⟨hn, hle⟩ := hc
            exact ⟨R, ts, hR, hts, hle, hr⟩
          · cases he
        · cases he
      · cases he
    · split at he
      · rename_i md sz rows hnd
        split at he
        · rename_i hr
          injection he with he; subst he
          obtain ⟨hn, hi, hle, hkb, hn0⟩ := hc
          simp only [Option.bind_eq_some_iff] at hnd
          obtain ⟨t0, ht0, hnd⟩ := hnd
          intro y hy
          simp at hy; subst hy
          exact ⟨t0, md, sz, rows, ht0, hnd, hr.2, hr.1, hi, hle⟩
        · cases he
      · cases he
    · cases he
  | ln x =>
    simp only [argIn] at he
    split at he
    · split at he
      · rename_i cs ts gs' ks' hln
        injection he with he; subst he
        intro y hy
        obtain ⟨jj, pl, t0, md, sz, rows, rfl, h2, h3, h4, h5, h6⟩ := lnRow_inv2 _ _ _ _ _ _ hln y hy
        refine ⟨t0, md, sz, rows, h3, h4, h5, h6, rfl, ?_⟩
        obtain ⟨_, q2⟩ := hH (m, ts) (by simp)
        have := q2 jj _ h2
        simp only at this
        rw [show 16000 + m - 16000 = m by omega] at this
        rw [Nat.zero_add]; exact this
      · cases he
    · cases he
theorem argsIn_gw {gi : Ghost} {vs : Array Value} : ∀ (l : List Arg) (m j : Nat) (pre : List (Option (Bool × List Cl))) (cs : List CIn), argsIn S m j l pre = some cs → csC cs → (∀ y ∈ csH cs, VarR [] gi w vs vs (16000 + y.1) (.hid y.2)) → ∀ y ∈ csG cs, GW S gi w vs y := by
  intro l
  induction l with
  | nil =>
    intro m j pre cs he
    cases pre with
    | nil =>
      simp only [argsIn, Option.some.injEq] at he
      subst he
      simp [csG]
    | cons p ps => simp [argsIn] at he
  | cons x l ih =>
    intro m j pre cs he hc hH y hy
    cases pre with
    | nil => simp [argsIn] at he
    | cons p ps =>
      simp only [argsIn] at he
      split at he
      · rename_i q hq
        simp only [Option.map_eq_some_iff] at he
        obtain ⟨cs1, h1, rfl⟩ := he
        obtain ⟨hc1, hc2⟩ := hc
        simp only [csG, List.flatMap_cons, List.mem_append] at hy
        rcases hy with hy | hy
        · exact argIn_gw hq hc1 (fun z hz => hH z (by simp only [csH, List.flatMap_cons, List.mem_append]; exact .inl hz)) y hy
        · exact ih _ _ _ _ h1 hc2 (fun z hz => hH z (by simp only [csH, List.flatMap_cons, List.mem_append]; exact .inr hz)) y hy
      · cases he

def Good (N : Nat) (w0 : World) (g0 : Ghost) (ar : Array Value) (K : St → Prop) (a : Act) (w : World) : Prop := ∃ S g, K S ∧ Rel N w0 g0 ar S a.tmps w g ∧ a.defers = []

/-- One operation. -/
def owp (P : Program) (G : Glob) : EOp → St → (St → Prop) → Prop
  | .call d f args, S, K => match callIn S args with
    | some (cs, S1) => csC cs ∧ gokB (csG cs) (csK cs) = true ∧ jB (csG cs) = true ∧ args.length ≤ 1000 ∧
      ∃ rs ms hs, FnD P G f (csA cs) (csM cs) (csH cs) rs ms hs ∧ retC S1 ms hs (csG cs) ∧ bxOk S1 (csG cs) (d.getD 4999) rs ∧ (match callOut S1 d cs rs ms hs with | some S' => K S' | none => False)
    | none => False
  | x, S, K => match eev S x with
    | some (c, S') => c ∧ K S'
    | none => False

theorem put_defers (a : Act) (d : Option Nat) (v : Value) : (a.put d v).defers = a.defers := by cases d <;> rfl
theorem runs_wp (h : Runs P N w0 g0 ar o a w S') (hf : a.defers = []) (hk : K S') : o.wp P a w (Good N w0 g0 ar K) Q := by
  obtain ⟨w', g', h | h⟩ := h
  · obtain ⟨v, h1, h2⟩ := h
    unfold Oper.wp; rw [h1]
    exact ⟨S', g', hk, h2, by rw [put_defers]; exact hf⟩
  · obtain ⟨h1, h2⟩ := h
    unfold Oper.wp; rw [h1]
    exact ⟨S', g', hk, h2, by rw [put_defers]; exact hf⟩
theorem argsB_eval : ∀ {l : List Operand} {m : List Arg}, argsB l m = true → ∀ a : Act, l.map a.eval = m.map fun x => x.opd.val a.tmps := by
  intro l
  induction l with
  | nil => intro m h a; cases m <;> simp [argsB] at h ⊢
  | cons x l ih =>
    intro m h a
    cases m with
    | nil => simp [argsB] at h
    | cons y m =>
      simp only [argsB, Bool.and_eq_true] at h
      simp only [List.map_cons]
      rw [opdB_eval h.1 a, ih h.2 a]

theorem callIn_gw {args : List Arg} {cs : List CIn} {S1 : St} (he : callIn S args = some (cs, S1)) (hc : csC cs) {gi : Ghost} {vs : Array Value} (hH : ∀ y ∈ csH cs, VarR [] gi w vs vs (16000 + y.1) (.hid y.2)) : ∀ y ∈ csG cs, GW S1 gi w vs y := by
  simp only [callIn] at he
  split at he
  · simp only [Option.map_eq_some_iff, Prod.mk.injEq] at he
    obtain ⟨cs', he, rfl, rfl⟩ := he
    exact argsIn_gw args 0 0 _ _ he hc hH
  · cases he

theorem call_sound {d : Option Nat} {f : FuncId} {args : List Arg} (hfit : EOp.fit P o (.call d f args) = true) (hN : N ≤ 10000) (hd : ∀ x, d = some x → x < N) (h : Rel N w0 g0 ar S a.tmps w g) (hgl : glR G g0 w0) (hf : a.defers = []) (hp : owp P G (.call d f args) S K) :
    o.wp P a w (Good N w0 g0 ar K) Q := by
  simp only [EOp.fit, Bool.and_eq_true, beq_iff_eq] at hfit
  obtain ⟨⟨h1, hd5⟩, h2⟩ := hfit
  have hdd : ∀ x, d = some x → x < N ∧ x < 5000 := fun x hx => ⟨hd x hx, by subst hx; simpa using hd5⟩
  split at h2
  · rename_i cl ho
    obtain ⟨cal, oargs, tys⟩ := cl
    simp only at h2
    split at h2
    · rename_i gf
      simp only [Bool.and_eq_true, beq_iff_eq] at h2
      obtain ⟨⟨rfl, h3⟩, h4⟩ := h2
      split at h4
      · rename_i fn hfn
        simp only [Bool.and_eq_true, Bool.not_eq_true', beq_eq_false_iff_ne] at h4
        obtain ⟨hbody, hname⟩ := h4
        simp only [owp] at hp
        split at hp
        · rename_i cs S1 hci
          obtain ⟨hc, hG, hj, hl, rs, ms, hs, hF, hret, hbx, hout⟩ := hp
          obtain ⟨g1, k1, hent, _, _⟩ := callIn_sound h hci hc hG hl rfl
          have hC := hF w _ _ (hgl.rel k1).gin hent
          let vs : List Value := args.map fun x => x.opd.val a.tmps
          have hrun : (execOp a.eval o).run P w = .ok (.enter gf vs.toArray) w := by
            have e1 : (oargs.map a.eval) = vs.toArray := by
              apply Array.ext'
              rw [Array.toList_map, argsB_eval h3 a]
            simp only [execOp, ho]
            rw [run_seq (P := P) (resolve a.eval ⟨.value (.func gf), oargs, tys⟩ o.type) (fun d => invoke d.target d.args) w (a := { target := .fn (.func gf) #[], args := #[] ++ vs.toArray }) (w' := w) (by
              simp only [resolve, e1, Deferred.ofValue, Act.eval]; rfl)]
            simp only [invoke, callFunc]
            rw [run_seq (P := P) program _ w (a := P) (w' := w) rfl]
            have hfn' : P.funcs[gf]? = some fn := hfn
            simp only [hfn']
            have hb1 : (fn.name == "runtime.NumGoroutine") = false := by simpa using hname
            have hb2 : fn.body.isNone = false := by cases hb : fn.body <;> simp_all
            simp [hb1, hb2]
          unfold Oper.wp
          rw [hrun]
          simp only [Oper.upon_enter]
          refine hC.mono fun e w' he => ?_
          obtain ⟨v, gc, rfl, hx⟩ := he
          split at hout
          · rename_i S' hco
            obtain ⟨g', hrel⟩ := callOut_sound k1 (gokB_ok hG) hdd hx (callIn_gw hci hc (fun y hy => hent.hids y hy)) hret hj hbx hco
            refine ⟨S', g', hout, ?_, by rw [put_defers]; exact hf⟩
            rw [h1]
            cases d <;> exact hrel
          · exact hout.elim
        · exact hp.elim
      · cases h4
    · cases h2
  · cases h2
end Go.Eng

namespace Go.Eng
variable {P : Program} {G : Glob} {N : Nat} {w0 : World} {g0 : Ghost} {ar tm : Array Value} {S S' : St} {w w1 : World} {g g1 : Ghost} {kp : List Nat} {K : List Key}

def nmKs (kp : List Nat) (ks : List Key) : List Key := ks.filter fun k => kp.elem k.1
def nmPl (kp : List Nat) : Option (Lab × Nat) → Option (Lab × Nat)
  | some (l, lo) => if kp.elem l.1 then some (l, lo) else none
  | none => none
def nmPe (kp : List Nat) : Option (Nat × Nat × Path × Nat × Nat) → Option (Nat × Nat × Path × Nat × Nat)
  | some (r, o, p, i, oo) => if kp.elem r then some (r, o, p, i, oo) else none
  | none => none
def nmC (K : List Key) (kp : List Nat) : Cl → Cl
  | .ow t => .ow t
  | .vw _ _ (.lit v) => .ow (.lit v)
  | .vw pl ks t => if keyB K ks then .vw (nmPl kp pl) (nmKs kp ks) t else .ow .bad
def nmA (K : List Key) (kp : List Nat) : A → A
  | .any => .any
  | .val agg row => .val agg (row.map (nmC K kp))
  | .tup rs => .tup (rs.map fun r => (r.1, r.2.map (nmC K kp)))
  | .mem row => .mem (row.map (nmC K kp))
  | .hid row => .hid row
  | .pr r o => if kp.elem r && decide (r < 19000) then .pr r o else .any
  | .pe pl ks row => if keyB K ks then .pe (nmPe kp pl) (nmKs kp ks) row else .any
  | .fn f ks rows => if keyB K ks then .fn f (nmKs kp ks) rows else .any
  | .al m agg => .al m agg
def nmL (S : St) (kp : List Nat) : List Nat → List (Nat × A)
  | [] => []
  | k :: l => (k, nmA S.k kp (S.get k)) :: nmL S kp l
def St.norm (S : St) (kp : List Nat) : St := ⟨nmL S kp kp, []⟩
/-- Memory of the caller's is kept. -/
def keepsL (kp : List Nat) : List (Nat × A) → Bool
  | [] => true
  | p :: l => (decide (p.1 < 15000) || kp.elem p.1) && keepsL kp l
def St.keeps (S : St) (kp : List Nat) : Bool := keepsL kp S.s

theorem nmL_get (S : St) (kp : List Nat) : ∀ (l : List Nat) (v : Nat), getL (nmL S kp l) v = if v ∈ l then nmA S.k kp (S.get v) else .any := by
  intro l
  induction l with
  | nil => intro v; rfl
  | cons k l ih =>
    intro v
    simp only [nmL, getL]
    by_cases e : v = k
    · subst e; simp
    · rw [if_neg e, ih]; simp [e]
theorem norm_get (S : St) (kp : List Nat) (v : Nat) : (S.norm kp).get v = if v ∈ kp then nmA S.k kp (S.get v) else .any := nmL_get S kp kp v
theorem keepsL_mem {l : List (Nat × A)} {v : Nat} (h : keepsL kp l = true) (hv : 15000 ≤ v) (hg : getL l v ≠ .any) : v ∈ kp := by
  induction l with
  | nil => exact absurd rfl hg
  | cons p l ih =>
    obtain ⟨k, a⟩ := p
    simp only [keepsL, Bool.and_eq_true, Bool.or_eq_true, decide_eq_true_eq] at h
    simp only [getL] at hg
    by_cases e : v = k
    · subst e
      rcases h.1 with h1 | h1
      · omega
      · exact List.mem_of_elem_eq_true h1
    · rw [if_neg e] at hg; exact ih h.2 hg

open Classical in
noncomputable def nmG (kp : List Nat) : Lab → Option Lab := fun l => if Sp l ∨ (l.1 ∈ kp ∧ l.1 < 19000) then some l else none
theorem nmG_some {l m : Lab} (h : nmG kp l = some m) : m = l ∧ (Sp l ∨ (l.1 ∈ kp ∧ l.1 < 19000)) := by
  unfold nmG at h
  split at h
  · injection h with h; exact ⟨h.symm, by assumption⟩
  · cases h
theorem nmG_of {l : Lab} (h : Sp l ∨ (l.1 ∈ kp ∧ l.1 < 19000)) : nmG kp l = some l := by unfold nmG; rw [if_pos h]
theorem mem_of_elem {k : Nat} (h : kp.elem k = true) : k ∈ kp := List.mem_of_elem_eq_true h

theorem nm_lp {ks : List Key} (hv : Vd K ks) {b k : Nat} (h : LP ks (g b k)) : LP (nmKs kp ks) (gren (nmG kp) g b k) := by
  rcases h with h | ⟨x, h1, h2⟩
  · exact .inl (gren_none h)
  · by_cases hk : Sp x ∨ (x.1 ∈ kp ∧ x.1 < 19000)
    · refine .inr ⟨x, gren_of h1 (nmG_of hk), ?_⟩
      rcases h2 with h2 | h2
      · exact .inl h2
      · right
        unfold nmKs
        rw [List.mem_filter]
        refine ⟨h2, ?_⟩
        have := (hv _ h2).2
        simp only at this
        rcases hk with hk | hk
        · rcases hk with hk | hk <;> omega
        · exact List.elem_eq_true_of_mem hk.1
    · left
      show (g b k).bind (nmG kp) = none
      rw [h1]
      show nmG kp x = none
      unfold nmG; rw [if_neg hk]
theorem nm_sh {ks : List Key} (hv : Vd K ks) {t : T} {v : Value} (h : ShR (LP ks) g w t v) : ShR (LP (nmKs kp ks)) (gren (nmG kp) g) w t v :=
  h.map (Step.refl (fun _ _ => False) w) fun b k _ hl => ⟨fun h => h, nm_lp hv hl⟩
theorem nm_tr {r o : Nat} {p : Path} {t : T} {v : Value} (hr : r ∈ kp) (hr2 : r < 19000) (h : TR g w r o p t v) : TR (gren (nmG kp) g) w r o p t v :=
  h.ren fun q hq => nmG_of (.inr ⟨hr, hr2⟩)
theorem nmKs_vd {ks : List Key} (hv : Vd K ks) : Vd [] (nmKs kp ks) := fun k hk => ⟨by simp, (hv k (List.mem_filter.1 hk).1).2⟩
theorem nmKs_mem {ks : List Key} {k : Key} (h : k ∈ ks) (hk : kp.elem k.1 = true) : k ∈ nmKs kp ks := List.mem_filter.2 ⟨h, hk⟩

theorem nm_cl {r o : Nat} {c : Cl} {v : Value} (hr : r ∈ kp) (hr2 : r < 19000) (h : ClR K g w r o c v) : ClR [] (gren (nmG kp) g) w r o (nmC K kp c) v := by
  cases c with
  | ow t => exact nm_tr hr hr2 h
  | vw pl ks t =>
    have key : ClR [] (gren (nmG kp) g) w r o (if keyB K ks then .vw (nmPl kp pl) (nmKs kp ks) t else .ow .bad) v := by
      split
      · rename_i hk
        have hv := keyB_vd hk
        obtain ⟨h1, h2⟩ := h.2 hv
        refine ⟨h.1, fun _ => ⟨nm_sh hv h1, fun l lo e => ?_⟩⟩
        unfold nmPl at e
        split at e
        · rename_i l' lo'
          split at e
          · rename_i hel
            injection e with e; injection e with e1 e2; subst e1; subst e2
            obtain ⟨q1, q2⟩ := h2 l' lo' rfl
            refine ⟨nmKs_mem q1 hel, ?_⟩
            have hl19 := (hv _ q1).2
            cases t with
            | sl md sz rows =>
              intro a n c e hpos
              obtain ⟨b, off, arr, ee, z1, z2, z3, z4, z5⟩ := q2 a n c e hpos
              exact ⟨b, off, arr, ee, z1, z2, z3, z4, fun i o' hi ho => gren_of (z5 i o' hi ho) (nmG_of (.inr ⟨mem_of_elem hel, hl19⟩))⟩
            | _ => trivial
          · cases e
        · cases e
      · exact .bad _ _ h.one
    cases t with
    | lit x =>
      obtain ⟨rfl, h1⟩ := h.1
      exact .lit _ _ h1
    | bad => exact key
    | sl md sz rows => exact key
theorem nm_val {r base : Nat} {agg : Bool} {row : List Cl} {v : Value} (hr : r ∈ kp) (hr2 : r < 19000) (h : ValR K g w r base agg row v) : ValR [] (gren (nmG kp) g) w r base agg (row.map (nmC K kp)) v := by
  obtain ⟨q1, q2⟩ := h.cells
  refine ValR.of_cells ?_ (by simpa using q1) fun o c hcc => ?_
  · rcases h.shape with hh | ⟨h1, h2⟩
    · exact .inl hh
    · exact .inr ⟨h1, by simpa using h2⟩
  · simp only [List.getElem?_map, Option.map_eq_some_iff] at hcc
    obtain ⟨c0, h0, rfl⟩ := hcc
    exact nm_cl hr hr2 (q2 o c0 h0)
theorem nm_pt {pl : Option (Nat × Nat × Path × Nat × Nat)} {ks : List Key} {row : Row} {v : Value} (hk : keyB K ks = true) (h : PtR K g w pl ks row v) :
    PtR [] (gren (nmG kp) g) w (nmPe kp pl) (nmKs kp ks) row v := by
  have hv := keyB_vd hk
  obtain ⟨b, k, e, h⟩ := h
  obtain ⟨arr, ee, fr, h1, h2, h3, h4, h5⟩ := h hv
  refine ⟨b, k, e, fun _ => ⟨arr, ee, fr, h1, h2, fun j hj => nm_lp hv (h3 j hj), fun j c hj => nm_sh hv (h4 j c hj), fun r o p i oo he => ?_⟩⟩
  unfold nmPe at he
  split at he
  · rename_i r' o' p' i' oo'
    split at he
    · rename_i hel
      simp only [Option.some.injEq, Prod.mk.injEq] at he
      obtain ⟨rfl, rfl, rfl, rfl, rfl⟩ := he
      obtain ⟨q1, q2, q3⟩ := h5 _ _ _ _ _ rfl
      exact ⟨nmKs_mem q1 hel, q2, fun j hj => gren_of (q3 j hj) (nmG_of (.inr ⟨mem_of_elem hel, (hv _ q1).2⟩))⟩
    · cases he
  · cases he

theorem nm_own {a : A} {o : Nat} (h : ownAt a o = true) : ownAt (nmA K kp a) o = true := by
  have hc : ∀ c, ownC c = true → ownC (nmC K kp c) = true := fun c hc => by
    cases c with
    | ow t => exact hc
    | vw pl ks t => simp [ownC] at hc
  cases a with
  | val agg row =>
    simp only [nmA, ownAt, List.getElem?_map] at h ⊢
    cases hr : row[o]? with
    | none => rw [hr] at h; cases h
    | some c => rw [hr] at h; exact hc c h
  | tup rs =>
    simp only [nmA, ownAt, List.getElem?_map] at h ⊢
    cases hr : rs[o / 1000]? with
    | none => rw [hr] at h; cases h
    | some r =>
      rw [hr] at h
      simp only [Option.map_some, List.getElem?_map] at h ⊢
      cases hr2 : r.2[o % 1000]? with
      | none => rw [hr2] at h; cases h
      | some c => rw [hr2] at h; exact hc c h
  | mem row => simpa [nmA, ownAt] using h
  | hid row => exact h
  | _ => cases h
theorem nm_hasL {a : A} {o : Nat} {p : Path} (h : hasL a o p = true) : hasL (nmA K kp a) o p = true := by
  cases p with
  | nil => cases a <;> simp_all [hasL, nmA]
  | cons x p =>
    have := nm_own (K := K) (kp := kp) (hasL_own h)
    revert this
    generalize nmA K kp a = b
    cases b <;> exact fun h => h
theorem nmA_mem {a : A} (h : ∀ row, a ≠ .mem row) (row : List Cl) : nmA K kp a ≠ .mem row := by
  cases a with
  | mem row' => exact absurd rfl (h row')
  | pr r o => simp only [nmA]; split <;> simp
  | pe pl ks row' => simp only [nmA]; split <;> simp
  | fn f ks rows => simp only [nmA]; split <;> simp
  | _ => simp [nmA]

theorem Rel.norm (h : Rel N w0 g0 ar S tm w g) (hk : S.keeps kp = true) : Rel N w0 g0 ar (S.norm kp) tm w (gren (nmG kp) g) where
  size := h.size
  inj := fun b k b' k' l h1 h2 => by
    obtain ⟨l1, a1, a2⟩ := gren_some h1
    obtain ⟨l2, b1, b2⟩ := gren_some h2
    rw [← (nmG_some a2).1] at a1
    rw [← (nmG_some b2).1] at b1
    exact h.inj _ _ _ _ _ a1 b1
  old := fun b k l h1 => by
    obtain ⟨l1, a1, _⟩ := gren_some h1
    exact h.old _ _ _ a1
  step := h.step
  none := fun b k hb hn => gren_none (h.none b k hb hn)
  sp := fun b k l hs => by
    rw [h.sp b k l hs]
    refine ⟨fun h1 => gren_of h1 (nmG_of (.inl hs)), fun h1 => ?_⟩
    obtain ⟨l1, a1, a2⟩ := gren_some h1
    rw [(nmG_some a2).1]; exact a1
  outk := fun b k r o h1 h2 h3 => by
    have h4 := h.outk b k r o h1 h2 h3
    refine gren_of h4 (nmG_of (.inr ⟨?_, by simp only; omega⟩))
    rcases h.lab _ _ _ h4 with z | z | z
    · rcases z with z | z <;> simp only at z <;> omega
    · simp only at z; omega
    · refine keepsL_mem hk h1 fun e => ?_
      have e : S.get r = .any := e
      rw [e] at z; simp [hasL] at z
  lab := fun b k l h1 => by
    obtain ⟨l1, a1, a2⟩ := gren_some h1
    obtain ⟨rfl, h3⟩ := nmG_some a2
    rcases h3 with h3 | ⟨h3, h4⟩
    · exact .inl h3
    · rcases h.lab _ _ _ a1 with z | z | z
      · exact .inl z
      · omega
      · refine .inr (.inr ?_)
        rw [norm_get, if_pos h3]
        exact nm_hasL z
  hi := fun v hv => by
    rw [norm_get]
    split
    · rw [h.hi v hv]; rfl
    · rfl
  slot := fun v row hv => by
    rw [norm_get]
    split
    · exact nmA_mem (h.slot v · hv) row
    · simp
  vars := fun v => by
    rw [norm_get]
    split
    · rename_i hv
      have hvr := h.vars v
      by_cases h19 : v < 19000
      · show VarR [] (gren (nmG kp) g) w tm ar v (nmA S.k kp (S.get v))
        cases ha : S.get v with
        | any => trivial
        | val agg row => rw [ha] at hvr; exact nm_val hv h19 hvr
        | tup rs =>
          rw [ha] at hvr
          obtain ⟨vs, h1, h2, h3⟩ := hvr
          refine ⟨vs, h1, by simpa using h2, fun m agg row hm => ?_⟩
          simp only [List.getElem?_map, Option.map_eq_some_iff, Prod.mk.injEq] at hm
          obtain ⟨⟨agg0, row0⟩, e0, rfl, rfl⟩ := hm
          obtain ⟨q1, q2⟩ := h3 m _ _ e0
          exact ⟨by simpa using q1, nm_val hv h19 q2⟩
        | mem row =>
          rw [ha] at hvr
          obtain ⟨b, k0, arr, e, h1, h2, h3⟩ := hvr
          refine ⟨b, k0, arr, e, h1, by simpa using h2, fun o c hc => ?_⟩
          simp only [List.getElem?_map, Option.map_eq_some_iff] at hc
          obtain ⟨c0, e0, rfl⟩ := hc
          obtain ⟨q1, q2⟩ := h3 o c0 e0
          exact ⟨gren_of q1 (nmG_of (.inr ⟨hv, h19⟩)), nm_cl hv h19 q2⟩
        | hid row =>
          rw [ha] at hvr
          exact ⟨hvr.1, fun o c hc => nm_tr hv h19 (hvr.2 o c hc)⟩
        | pr r o =>
          rw [ha] at hvr
          simp only [nmA]
          split
          · rename_i hc
            simp only [Bool.and_eq_true, decide_eq_true_eq] at hc
            obtain ⟨b, k, h1, h2⟩ := hvr
            exact ⟨b, k, h1, gren_of h2 (nmG_of (.inr ⟨mem_of_elem hc.1, hc.2⟩))⟩
          · trivial
        | pe pl ks row =>
          rw [ha] at hvr
          simp only [nmA]
          split
          · rename_i hc; exact nm_pt hc hvr
          · trivial
        | al m agg => rw [ha] at hvr; exact hvr
        | fn f ks rows =>
          rw [ha] at hvr
          simp only [nmA]
          split
          · rename_i hc
            obtain ⟨caps, h1, h2, h3⟩ := hvr
            exact ⟨caps, h1, h2, fun i row hi => nm_pt hc (h3 i row hi)⟩
          · trivial
      · rw [h.hi v (by omega)]; trivial
    · trivial
end Go.Eng

namespace Go.Eng
variable {P : Program} {G : Glob} {N : Nat} {w0 : World} {g0 : Ghost} {ar tm : Array Value} {S S' : St} {w w1 : World} {g g1 : Ghost} {K : St → Prop} {o : Oper} {a : Act} {Q : Exit → Act → World → Prop}

/-- An operation of a region: under which guard, and behind which others (where the order is drawn). -/
structure AO where
  guard : Option (Nat × Bool)
  op : EOp
  aft : List Nat := []

def EOp.dst : EOp → Option Nat
  | .p d _ | .asg d _ | .tk d _ | .box d _ | .alloc d _ | .bsl d _ _ | .build d _ _ | .app d _ _ _ _ | .ext d _ _ | .mks d _ _ _ _ | .bsv d _ _ => some d
  | .st .. => none
  | .call d .. => d
  | .no d => d

def skipPut (S : St) : Option Nat → St
  | some d => S.set d (.tup [])
  | none => S
/-- What a guard looks at: what was skipped is no boolean. -/
def gvA (f : Nat → A) (s : Nat) : A → Option Value
  | .val _ _ => lit1 (.t s) f
  | .tup [] => some undef
  | _ => none
def gv (f : Nat → A) (s : Nat) : Option Value := gvA f s (f s)
def rwp (P : Program) (G : Glob) : List AO → St → (St → Prop) → Prop
  | [], S, K => K S
  | x :: l, S, K => match x.guard with
    | none => owp P G x.op S fun S' => rwp P G l S' K
    | some (s, b) => match gv S.get s with
      | some v => (v = .bool b → owp P G x.op S fun S' => rwp P G l S' K) ∧ (v ≠ .bool b → rwp P G l (skipPut S x.op.dst) K)
      | none => False

/-- The edges that are told bind, and edges lead back. -/
def aftB (k : Nat) (o : Oper) (x : AO) : Bool := x.aft.all (fun j => o.after.any fun e => e.on == j && Region.binds .any e) && o.after.all fun e => decide (e.on < k)
/-- All orders: whatever is ready may be next. -/
def sAny (P : Program) (G : Glob) (l : List AO) : Nat → List Nat → St → (St → Prop) → Prop
  | 0, _, S, K => K S
  | n + 1, done, S, K => ∀ i x, l[i]? = some x → i ∉ done → (∀ j ∈ x.aft, j ∈ done) → rwp P G [x] S fun S' => sAny P G l n (i :: done) S' K
def AO.fit (P : Program) (N : Nat) (ops : Array Oper) (o : Oper) (x : AO) : Bool :=
  EOp.fit P o x.op && (match x.op.dst with | some d => decide (d < N) | none => true) && (match o.guard, x.guard with
    | none, none => true
    | some (j, b), some (s, b') => b == b' && ((ops[j]?).bind (·.dst)) == some s
    | _, _ => false)
def fitL (P : Program) (N : Nat) (ops : Array Oper) : Nat → List AO → Bool
  | k, [] => k == ops.size
  | k, x :: l => (match ops[k]? with | some o => AO.fit P N ops o x | none => false) && fitL P N ops (k + 1) l
def fitA (ops : Array Oper) : Nat → List AO → Bool
  | _, [] => true
  | k, x :: l => (match ops[k]? with | some o => aftB k o x | none => false) && fitA ops (k + 1) l

theorem EOp.fit_dst {x : EOp} (h : EOp.fit P o x = true) : o.dst = x.dst := by
  cases x <;> simp only [EOp.fit, Bool.and_eq_true, beq_iff_eq] at h <;> simp only [EOp.dst] <;> first | exact h | exact h.1 | exact h.1.1 | exact h.1.1.1

theorem owp_sound {x : EOp} (hN : N ≤ 10000) (hgl : glR G g0 w0) (hfit : EOp.fit P o x = true) (hd : ∀ d, x.dst = some d → d < N) (hr : Rel N w0 g0 ar S a.tmps w g) (hf : a.defers = []) (h : owp P G x S K) : o.wp P a w (Good N w0 g0 ar K) Q := by
  cases x with
  | call d f args => exact call_sound hfit hN (fun d' e => hd d' e) hr hgl hf h
  | p d x =>
    simp only [owp] at h; split at h
    · rename_i he; exact runs_wp (p_sound hfit hN (hd _ rfl) hr he h.1) hf h.2
    · exact h.elim
  | asg d x =>
    simp only [owp] at h; split at h
    · rename_i he; exact runs_wp (asg_sound hfit hN (hd _ rfl) hr he h.1) hf h.2
    · exact h.elim
  | tk d x =>
    simp only [owp] at h; split at h
    · rename_i he; exact runs_wp (tk_sound hfit hN (hd _ rfl) hr he h.1) hf h.2
    · exact h.elim
  | box d x =>
    simp only [owp] at h; split at h
    · rename_i he; exact runs_wp (box_sound hfit hN (hd _ rfl) hr he h.1) hf h.2
    · exact h.elim
  | alloc d z =>
    simp only [owp] at h; split at h
    · rename_i he; exact runs_wp (alloc_sound hfit hN (hd _ rfl) hr he h.1) hf h.2
    · exact h.elim
  | st x y n =>
    simp only [owp] at h; split at h
    · rename_i he; exact runs_wp (st_sound hfit hr he h.1) hf h.2
    · exact h.elim
  | bsl d sz parts =>
    simp only [owp] at h; split at h
    · rename_i he; exact runs_wp (bsl_sound hfit hN (hd _ rfl) hr he h.1) hf h.2
    · exact h.elim
  | build d z parts =>
    simp only [owp] at h; split at h
    · rename_i he; exact runs_wp (build_sound hfit hN (hd _ rfl) hr he h.1) hf h.2
    · exact h.elim
  | app d x y sz by' =>
    simp only [owp] at h; split at h
    · rename_i he; exact runs_wp (app_sound hfit hN (hd _ rfl) hr he h.1) hf h.2
    · exact h.elim
  | ext d x m =>
    simp only [owp] at h; split at h
    · rename_i he; exact runs_wp (ext_sound hfit hN (hd _ rfl) hr he h.1) hf h.2
    · exact h.elim
  | mks d x y z by' =>
    simp only [owp] at h; split at h
    · rename_i he; exact runs_wp (mks_sound hfit hN (hd _ rfl) hr he h.1) hf h.2
    · exact h.elim
  | bsv d sz parts =>
    simp only [owp] at h; split at h
    · rename_i he; exact runs_wp (bsv_sound hfit hN (hd _ rfl) hr he h.1) hf h.2
    · exact h.elim
  | no d => simp only [owp, eev] at h

theorem Good.mono {K K' : St → Prop} (h : Good N w0 g0 ar K a w) (hk : ∀ S, K S → K' S) : Good N w0 g0 ar K' a w := by
  obtain ⟨S, g, h1, h2, h3⟩ := h
  exact ⟨S, g, hk S h1, h2, h3⟩
theorem skip_good {x : EOp} (hN : N ≤ 10000) (hfit : EOp.fit P o x = true) (hd : ∀ d, x.dst = some d → d < N) (hr : Rel N w0 g0 ar S a.tmps w g) (hf : a.defers = []) : ∃ g, Rel N w0 g0 ar (skipPut S x.dst) (a.put o.dst undef).tmps w g ∧ (a.put o.dst undef).defers = [] := by
  rw [EOp.fit_dst hfit]
  cases hx : x.dst with
  | none => exact ⟨g, hr, hf⟩
  | some d =>
    have hlt : d < a.tmps.size := by rw [hr.size]; exact hd d hx
    obtain ⟨g', k1, _⟩ := hr.put (a := .tup []) (v := undef) (hd d hx) (by have := hd d hx; omega) (by simp) (by simp [ownAt]) ⟨#[], by
      rw [Array.getD_eq_getD_getElem?, Array.getElem?_setIfInBounds, if_pos rfl, if_pos hlt]; rfl, rfl, fun m agg row h => by simp at h⟩
    exact ⟨g', k1, hf⟩
theorem gv_val (hr : Rel N w0 g0 ar S tm w g) {s : Nat} {v : Value} (h : gv S.get s = some v) : tm.getD s undef = v := by
  unfold gv gvA at h
  split at h
  · exact lit1_val hr (x := .t s) h
  · rename_i he
    injection h with h; subst h
    have := hr.vars s
    rw [he] at this
    obtain ⟨vs, h1, h2, _⟩ := this
    rw [h1]
    have : vs = #[] := Array.eq_empty_of_size_eq_zero h2
    rw [this]; rfl
  · cases h


theorem Oper.wp_mono {next next' : Act → World → Prop} (h : o.wp P a w next Q) (hn : ∀ a w, next a w → next' a w) : o.wp P a w next' Q := by
  unfold Oper.wp Oper.upon at *
  split at h
  · exact hn _ _ h
  · exact hn _ _ h
  · exact hn _ _ h
  · exact h.mono fun e w' he => by
      cases e with
      | returned v => exact hn _ _ he
      | panicked c => exact he
      | outgrown => exact he
  · exact h.mono fun v w' he => hn _ _ he
  · exact h
  · exact h.elim

/-- One operation, whether it is wanted or not. -/
theorem ao_sound {ops : Array Oper} {x : AO} (hN : N ≤ 10000) (hgl : glR G g0 w0) (hfit : AO.fit P N ops o x = true) {l : List AO} (hr : Rel N w0 g0 ar S a.tmps w g) (hf : a.defers = []) (h : rwp P G (x :: l) S K) :
    (Region.wanted o (yielded ops a.tmps) = true ∧ o.wp P a w (Good N w0 g0 ar fun S' => rwp P G l S' K) Q) ∨
    (Region.wanted o (yielded ops a.tmps) = false ∧ Good N w0 g0 ar (fun S' => rwp P G l S' K) (a.put o.dst undef) w) := by
  simp only [AO.fit, Bool.and_eq_true] at hfit
  obtain ⟨⟨h1, h2⟩, h3⟩ := hfit
  have hd : ∀ d, x.op.dst = some d → d < N := fun d hd => by rw [hd] at h2; simpa using h2
  simp only [rwp] at h
  split at h3
  · rename_i hg hx
    rw [hx] at h
    left
    exact ⟨by simp [Region.wanted, hg], owp_sound hN hgl h1 hd hr hf h⟩
  · rename_i j b s b' hg hx
    simp only [Bool.and_eq_true, beq_iff_eq] at h3
    obtain ⟨rfl, h4⟩ := h3
    rw [hx] at h
    simp only at h
    split at h
    · rename_i vv hgv
      have hv : a.tmps.getD s undef = vv := gv_val hr hgv
      by_cases hb : vv = .bool b
      · have hy : yielded ops a.tmps j = some b := by
          unfold yielded
          rw [h4, Option.bind_some]
          rw [Array.getD_eq_getD_getElem?] at hv
          cases ht : a.tmps[s]? with
          | none => rw [ht] at hv; simp [undef] at hv; subst hv; simp at hb
          | some v => rw [ht] at hv; simp at hv; subst hv; subst hb; rfl
        left
        refine ⟨by simp [Region.wanted, hg, hy], owp_sound hN hgl h1 hd hr hf (h.1 hb)⟩
      · right
        have hy : yielded ops a.tmps j ≠ some b := by
          unfold yielded
          rw [h4, Option.bind_some]
          rw [Array.getD_eq_getD_getElem?] at hv
          cases ht : a.tmps[s]? with
          | none => simp
          | some v =>
            rw [ht] at hv; simp at hv; subst hv
            cases v <;> simp
            intro e; subst e; exact hb rfl
        refine ⟨by simp [Region.wanted, hg, hy], ?_⟩
        obtain ⟨g', k1, k2⟩ := skip_good hN h1 hd hr hf
        exact ⟨_, g', h.2 hb, k1, k2⟩
    · exact h.elim
  · cases h3

theorem rwp_sound {ops : Array Oper} (hN : N ≤ 10000) (hgl : glR G g0 w0) : ∀ (l : List AO) (k : Nat) (a : Act) (w : World) (S : St) (g : Ghost), fitL P N ops k l = true → Rel N w0 g0 ar S a.tmps w g → a.defers = [] → rwp P G l S K →
    (∀ a w, Good N w0 g0 ar K a w → Q .normal a w) → wpOps P ops Q (List.range' k l.length) a w := by
  intro l
  induction l with
  | nil => intro k a w S g _ hr hf h hQ; exact hQ _ _ ⟨S, g, h, hr, hf⟩
  | cons x l ih =>
    intro k a w S g hfit hr hf h hQ
    simp only [fitL, Bool.and_eq_true] at hfit
    obtain ⟨h1, h2⟩ := hfit
    split at h1
    · rename_i o ho
      simp only [List.length_cons, List.range'_succ, wpOps, ho]
      rcases ao_sound (Q := Q) hN hgl h1 hr hf h with ⟨hw, hop⟩ | ⟨hw, S', g', k1, k2, k3⟩
      · rw [if_pos hw]
        left
        exact Oper.wp_mono hop fun a' w' ⟨S', g', k1, k2, k3⟩ => ih (k + 1) a' w' S' g' h2 k2 k3 k1 hQ
      · rw [if_neg (by simp [hw])]
        exact ih (k + 1) _ w S' g' h2 k2 k3 k1 hQ
    · cases h1

/-! ### Code -/
inductive ACode where
  | skip
  | reg (draw : Bool) (ops : List AO) (keep : List Nat)
  | seq (a b : ACode)
  | cond (c : Opd) (a b : ACode)
  | block (id : Nat) (a : ACode)
  | loop (keep : List Nat) (a : ACode)
  | exit (id : Nat) (keep : List Nat)
  | ret

inductive AEx where
  | normal
  | exit (id : Nat)
  | ret

/-- At an end: what is not wanted is forgotten. -/
def atEnd (S : St) (kp : List Nat) (K : St → Prop) : Prop := S.keeps kp = true ∧ K (S.norm kp)

def cwp (P : Program) (G : Glob) : ACode → (AEx → St → Prop) → St → Prop
  | .skip, Q, S => Q .normal S
  | .reg true ops keep, Q, S => sAny P G ops ops.length [] S fun S' => atEnd S' keep (Q .normal)
  | .reg false ops keep, Q, S => rwp P G ops S fun S' => atEnd S' keep (Q .normal)
  | .seq a b, Q, S => cwp P G a (fun e S' => match e with | .normal => cwp P G b Q S' | e => Q e S') S
  | .cond c a b, Q, S => match lit1 c S.get with
    | some (.bool t) => (t = true → cwp P G a Q S) ∧ (t = false → cwp P G b Q S)
    | _ => False
  | .block id a, Q, S => cwp P G a (fun e S' => match e with | .exit i => if i = id then Q .normal S' else Q (.exit i) S' | e => Q e S') S
  | .loop l a, Q, S => ∃ (I : St → Prop) (μ : St → Nat), atEnd S l I ∧ ∀ S', I S' → cwp P G a (fun e S'' => match e with | .normal => atEnd S'' l fun T => I T ∧ μ T < μ S' | e => Q e S'') S'
  | .exit id l, Q, S => atEnd S l (Q (.exit id))
  | .ret, Q, S => Q .ret S

def cfit (P : Program) (N : Nat) : Code → ACode → Bool
  | .skip, .skip => true
  | .region _ ops draw, .reg draw' l _ => draw == draw' && fitL P N ops 0 l && (!draw || fitA ops 0 l)
  | .seq a b, .seq x y => cfit P N a x && cfit P N b y
  | .cond c a b, .cond c' x y => opdB c c' && cfit P N a x && cfit P N b y
  | .block id a, .block id' x => id == id' && cfit P N a x
  | .loop a, .loop _ x => cfit P N a x
  | .exit id, .exit id' _ => id == id'
  | .ret, .ret => true
  | _, _ => false

def liftQ (N : Nat) (w0 : World) (g0 : Ghost) (ar : Array Value) (Q : AEx → St → Prop) : Exit → Act → World → Prop
  | .normal, a, w => Good N w0 g0 ar (Q .normal) a w
  | .exit id, a, w => Good N w0 g0 ar (Q (.exit id)) a w
  | .ret, a, w => Good N w0 g0 ar (Q .ret) a w
  | _, _, _ => False

theorem wp_loop_rel {P : Program} {Q : Exit → Act → World → Prop} {a : Act} {w : World} {c : Code} (J : Nat → Act → World → Prop) (h₀ : ∃ n, J n a w)
    (round : ∀ n a w, J n a w → c.wp P (Exit.then (fun a' w' => ∃ m, m < n ∧ J m a' w') Q) a w) : (Code.loop c).wp P Q a w := by
  intro b k cs
  have key : ∀ n a w, J n a w → ∃ e a' w', Q e a' w' ∧ Arrives P (lone (b.at a (.code c :: .inLoop c :: k)) cs w) b k cs e a' w' := by
    intro n
    induction n using Nat.strongRecOn with
    | _ n ih =>
      intro a w hJ
      obtain ⟨e, a₁, w₁, hq, harr⟩ := round n a w hJ b (.inLoop c :: k) cs
      cases e with
      | normal =>
        obtain ⟨m, hlt, hJ₁⟩ := hq
        obtain ⟨e₂, a₂, w₂, hq₂, harr₂⟩ := ih m hlt a₁ w₁ hJ₁
        exact ⟨e₂, a₂, w₂, hq₂, .of_steps (Steps.trans harr (.one step_inLoop)) harr₂⟩
      | exit id => exact ⟨_, a₁, w₁, hq, .pass (x := .inLoop c) rfl (fun _ _ => .inl (by simp)) harr⟩
      | goto l => exact ⟨_, a₁, w₁, hq, .pass (x := .inLoop c) rfl (fun _ _ => .inl (by simp)) harr⟩
      | ret => exact ⟨_, a₁, w₁, hq, .pass (x := .inLoop c) rfl (fun _ _ => .inl (by simp)) harr⟩
      | panic ch => exact ⟨_, a₁, w₁, hq, .pass (x := .inLoop c) rfl (fun _ _ => .inl (by simp)) harr⟩
      | outgrown => exact ⟨_, a₁, w₁, hq, .pass (x := .inLoop c) rfl (fun _ _ => .inl (by simp)) harr⟩
  obtain ⟨n, h⟩ := h₀
  obtain ⟨e, a', w', hq, harr⟩ := key n a w h
  exact ⟨e, a', w', hq, .of_steps (.one step_loop) harr⟩

theorem good_end {kp : List Nat} (h : Good N w0 g0 ar (fun S => atEnd S kp K) a w) : Good N w0 g0 ar K a w := by
  obtain ⟨S, g, ⟨h1, h2⟩, h3, h4⟩ := h
  exact ⟨_, _, h2, h3.norm h1, h4⟩

theorem fitL_len {ops : Array Oper} : ∀ (l : List AO) (k : Nat), fitL P N ops k l = true → k + l.length = ops.size := by
  intro l
  induction l with
  | nil => intro k hk; simpa [fitL] using hk
  | cons x l ih => intro k hk; simp only [fitL, Bool.and_eq_true] at hk; have := ih (k + 1) hk.2; simp only [List.length_cons]; omega
theorem fitL_get {ops : Array Oper} : ∀ (l : List AO) (k i : Nat) (x : AO), fitL P N ops k l = true → l[i]? = some x → ∃ o, ops[k + i]? = some o ∧ AO.fit P N ops o x = true := by
  intro l
  induction l with
  | nil => intro k i x _ h; simp at h
  | cons y l ih =>
    intro k i x hf h
    simp only [fitL, Bool.and_eq_true] at hf
    cases i with
    | zero =>
      simp at h; subst h
      obtain ⟨h1, _⟩ := hf
      split at h1
      · rename_i o ho; exact ⟨o, ho, h1⟩
      · cases h1
    | succ i =>
      obtain ⟨o, h1, h2⟩ := ih (k + 1) i x hf.2 (by simpa using h)
      exact ⟨o, by rwa [show k + (i + 1) = k + 1 + i by omega], h2⟩
theorem fitA_get {ops : Array Oper} : ∀ (l : List AO) (k i : Nat) (x : AO) (o : Oper), fitA ops k l = true → l[i]? = some x → ops[k + i]? = some o → aftB (k + i) o x = true := by
  intro l
  induction l with
  | nil => intro k i x o _ h; simp at h
  | cons y l ih =>
    intro k i x o hf h ho
    simp only [fitA, Bool.and_eq_true] at hf
    cases i with
    | zero =>
      simp at h; subst h
      obtain ⟨h1, _⟩ := hf
      rw [show k + 0 = k by omega] at ho ⊢
      rw [ho] at h1; exact h1
    | succ i =>
      have := ih (k + 1) i x o hf.2 (by simpa using h) (by rwa [show k + 1 + i = k + (i + 1) by omega])
      rwa [show k + 1 + i = k + (i + 1) by omega] at this

def rem (n : Nat) (listed : Array Bool) : List Nat := (List.range n).filter fun i => !listed.getD i true
theorem mem_rem {n i : Nat} {listed : Array Bool} : i ∈ rem n listed ↔ i < n ∧ listed.getD i true = false := by
  unfold rem; rw [List.mem_filter, List.mem_range]; simp
theorem set_get {listed : Array Bool} {i j : Nat} (h : j ≠ i) (b : Bool) : (listed.setIfInBounds i true).getD j b = listed.getD j b := by
  simp only [Array.getD_eq_getD_getElem?, Array.getElem?_setIfInBounds_ne (fun e => h e.symm)]
theorem set_get_self {listed : Array Bool} {i : Nat} (h : i < listed.size) (b : Bool) : (listed.setIfInBounds i true).getD i b = true := by
  simp only [Array.getD_eq_getD_getElem?, Array.getElem?_setIfInBounds_self_of_lt h]; rfl
theorem getD_any {l : Array Bool} {i : Nat} (h : i < l.size) (b b' : Bool) : l.getD i b = l.getD i b' := by
  simp [Array.getD_eq_getD_getElem?, Array.getElem?_eq_getElem h]
theorem rem_set {n i : Nat} {listed : Array Bool} (hs : listed.size = n) (h : i ∈ rem n listed) : (rem n (listed.setIfInBounds i true)).length + 1 = (rem n listed).length := by
  obtain ⟨h1, h2⟩ := mem_rem.1 h
  obtain ⟨k, rfl⟩ : ∃ k, n = i + (1 + k) := ⟨n - i - 1, by omega⟩
  have hr : List.range (i + (1 + k)) = List.range i ++ (i :: List.range' (i + 1) k) := by
    rw [List.range_eq_range', List.range_eq_range', ← List.range'_append_1, Nat.add_comm 1 k, Nat.zero_add, List.range'_succ]
  have e1 : rem (i + (1 + k)) listed = (List.range i).filter (fun i => !listed.getD i true) ++ i :: (List.range' (i + 1) k).filter (fun i => !listed.getD i true) := by
    unfold rem
    rw [hr, List.filter_append, List.filter_cons_of_pos (by simp [h2])]
  have e2 : rem (i + (1 + k)) (listed.setIfInBounds i true) = (List.range i).filter (fun i => !listed.getD i true) ++ (List.range' (i + 1) k).filter (fun i => !listed.getD i true) := by
    unfold rem
    rw [hr, List.filter_append, List.filter_cons_of_neg (by rw [set_get_self (by omega)]; simp)]
    congr 1
    · exact List.filter_congr fun j hj => by rw [set_get (by have := List.mem_range.1 hj; omega)]
    · exact List.filter_congr fun j hj => by rw [set_get (by have := List.mem_range'_1.1 hj; omega)]
  rw [e1, e2]
  simp only [List.length_append, List.length_cons]
  omega
theorem ready_mem {md : Region.Mode} {ops : Array Oper} {listed : Array Bool} {i : Nat} (h : i ∈ Region.ready md ops listed) : i < ops.size ∧ listed.getD i true = false ∧ ∃ o, ops[i]? = some o ∧ ∀ e ∈ o.after, Region.binds md e = true → listed.getD e.on false = true := by
  unfold Region.ready at h
  rw [List.mem_filter, List.mem_range] at h
  obtain ⟨h1, h2⟩ := h
  simp only [Bool.and_eq_true, Bool.not_eq_true'] at h2
  refine ⟨h1, h2.1, ?_⟩
  cases ho : ops[i]? with
  | none => rw [ho] at h2; simp at h2
  | some o =>
    rw [ho] at h2
    simp only [Option.map_some, Option.getD_some, Array.all_eq_true, Bool.or_eq_true, Bool.not_eq_true'] at h2
    refine ⟨o, rfl, fun e he hb => ?_⟩
    obtain ⟨k, hk, rfl⟩ := Array.mem_iff_getElem.1 he
    rcases h2.2 k hk with h | h
    · rw [hb] at h; cases h
    · exact h
theorem binds_any {md : Region.Mode} {e : Edge} (h : Region.binds .any e = true) : Region.binds md e = true := by
  unfold Region.binds at *
  split <;> simp_all

theorem any_sound {md : Region.Mode} {ops : Array Oper} {l : List AO} (hN : N ≤ 10000) (hgl : glR G g0 w0) (hfit : fitL P N ops 0 l = true) (hfa : fitA ops 0 l = true)
    (hQ : ∀ a w, Good N w0 g0 ar K a w → Q .normal a w) :
    ∀ (fuel : Nat) (listed : Array Bool) (done : List Nat) (a : Act) (w : World) (S : St) (g : Ghost), listed.size = ops.size → (∀ i, i < ops.size → (listed.getD i true = true ↔ i ∈ done)) → (rem ops.size listed).length = fuel →
      Rel N w0 g0 ar S a.tmps w g → a.defers = [] → sAny P G l fuel done S K → wpAny P md ops Q fuel listed a w := by
  have hlen := fitL_len l 0 hfit
  intro fuel
  induction fuel with
  | zero =>
    intro listed done a w S g hsz hd hlen hr hf h
    have hnil : rem ops.size listed = [] := List.length_eq_zero_iff.1 hlen
    refine ⟨List.eq_nil_iff_forall_not_mem.2 fun i hm => ?_, hQ _ _ ⟨S, g, h, hr, hf⟩⟩
    obtain ⟨h1, h2, _⟩ := ready_mem hm
    have : i ∈ rem ops.size listed := mem_rem.2 ⟨h1, h2⟩
    rw [hnil] at this; simp at this
  | succ fuel ih =>
    intro listed done a w S g hsz hd hln hr hf h
    refine ⟨fun hnil => ?_, fun i hm => ?_⟩
    · exfalso
      cases hrem : rem ops.size listed with
      | nil => rw [hrem] at hln; cases hln
      | cons i R =>
        have hmem : i ∈ rem ops.size listed := by rw [hrem]; simp
        obtain ⟨h1, h2⟩ := mem_rem.1 hmem
        have hsorted : List.Pairwise (· < ·) (rem ops.size listed) := by
          unfold rem; exact List.Pairwise.filter _ List.pairwise_lt_range
        rw [hrem, List.pairwise_cons] at hsorted
        have hready : i ∈ Region.ready md ops listed := by
          unfold Region.ready
          rw [List.mem_filter, List.mem_range]
          refine ⟨h1, ?_⟩
          have ho : ops[i]? = some ops[i] := Array.getElem?_eq_getElem h1
          simp only [h2, Bool.not_false, Bool.true_and, ho, Option.map_some, Option.getD_some, Array.all_eq_true, Bool.or_eq_true, Bool.not_eq_true']
          intro k hk
          right
          have hx : l[i]? = some (l[i]'(by omega)) := List.getElem?_eq_getElem (by omega)
          have ha := fitA_get l 0 i _ _ hfa hx (by rw [Nat.zero_add]; exact ho)
          simp only [aftB, Bool.and_eq_true, Array.all_eq_true, decide_eq_true_eq, Nat.zero_add] at ha
          have hlt := ha.2 k hk
          have hin : (ops[i].after[k]).on < listed.size := by omega
          cases hl : listed.getD (ops[i].after[k]).on true with
          | true => rw [getD_any hin false true]; exact hl
          | false =>
            have hm2 : (ops[i].after[k]).on ∈ rem ops.size listed := mem_rem.2 ⟨by omega, hl⟩
            rw [hrem] at hm2
            rcases List.mem_cons.1 hm2 with e | hm2
            · omega
            · have := hsorted.1 _ hm2; omega
        rw [hnil] at hready; simp at hready
    · obtain ⟨h1, h2, o, ho, haft⟩ := ready_mem hm
      have hx : l[i]? = some (l[i]'(by omega)) := List.getElem?_eq_getElem (by omega)
      obtain ⟨o', ho', hfo⟩ := fitL_get l 0 i _ hfit hx
      rw [Nat.zero_add, ho] at ho'
      injection ho' with ho'; subst ho'
      have ha := fitA_get l 0 i _ _ hfa hx (by rw [Nat.zero_add]; exact ho)
      simp only [aftB, Bool.and_eq_true, List.all_eq_true, Array.any_eq_true, beq_iff_eq] at ha
      have hnd : i ∉ done := fun hi => by have := (hd i h1).2 hi; rw [h2] at this; cases this
      have hst := h i _ hx hnd fun j hj => by
        obtain ⟨k, hk, e1, e2⟩ := ha.1 j hj
        have hlst := haft _ (Array.getElem_mem hk) (binds_any e2)
        rw [e1] at hlst
        have hjl : j < listed.size := by
          rcases Nat.lt_or_ge j listed.size with hlt | hge
          · exact hlt
          · rw [Array.getD_eq_getD_getElem?, Array.getElem?_eq_none hge] at hlst; cases hlst
        exact (hd j (by omega)).1 (by rw [getD_any hjl true false]; exact hlst)
      have hgo : ∀ (a' : Act) (w' : World), Good N w0 g0 ar (fun S' => rwp P G [] S' fun S' => sAny P G l fuel (i :: done) S' K) a' w' → wpAny P md ops Q fuel (listed.setIfInBounds i true) a' w' := by
        rintro a' w' ⟨S', g', k1, k4, k5⟩
        refine ih _ (i :: done) a' w' S' g' (by simp [hsz]) (fun j hj => ?_) ?_ k4 k5 k1
        · by_cases e : j = i
          · subst e; rw [set_get_self (by omega)]; simp
          · rw [set_get e, hd j hj]; simp [e]
        · have := rem_set hsz (mem_rem.2 ⟨h1, h2⟩); omega
      unfold wpOp
      simp only [ho]
      rcases ao_sound (Q := Q) hN hgl hfo hr hf hst with ⟨hwt, hop⟩ | ⟨hwt, hg⟩
      · rw [if_pos hwt]
        exact .inl (Oper.wp_mono hop hgo)
      · rw [if_neg (by simp [hwt])]
        exact hgo _ _ hg
theorem draw_sound {ops : Array Oper} {l : List AO} (hN : N ≤ 10000) (hgl : glR G g0 w0) (hfit : fitL P N ops 0 l = true) (hfa : fitA ops 0 l = true) (hr : Rel N w0 g0 ar S a.tmps w g) (hf : a.defers = []) (h : sAny P G l l.length [] S K)
    (hQ : ∀ a w, Good N w0 g0 ar K a w → Q .normal a w) : ∀ t, wpOps P ops Q (Region.schedule (P.follows .mixedOrders) ops t) a w := by
  have hlen := fitL_len l 0 hfit
  have hany : ∀ md : Region.Mode, wpAny P md ops Q ops.size (Array.replicate ops.size false) a w := by
    intro md
    rw [show l.length = ops.size by omega] at h
    refine any_sound hN hgl hfit hfa hQ ops.size _ [] a w S g (by simp) (fun i hi => by simp [Array.getD_eq_getD_getElem?, hi]) ?_ hr hf h
    have : rem ops.size (Array.replicate ops.size false) = List.range ops.size := by
      unfold rem
      rw [List.filter_eq_self]
      intro i hi
      have := List.mem_range.1 hi
      simp [Array.getD_eq_getD_getElem?, this]
    rw [this]; simp
  intro t
  unfold Region.schedule
  split
  · exact wpAny_sound ops.size t _ a w (hany .any)
  · exact wpAny_sound ops.size (t / 2) _ a w (hany _)

theorem cwp_sound (hN : N ≤ 10000) (hgl : glR G g0 w0) :
    ∀ (x : ACode) (c : Code) (Q : AEx → St → Prop) (S : St) (g : Ghost) (a : Act) (w : World), cfit P N c x = true → Rel N w0 g0 ar S a.tmps w g → a.defers = [] → cwp P G x Q S → c.wp P (liftQ N w0 g0 ar Q) a w := by
  intro x
  induction x with
  | skip =>
    intro c Q S g a w hfit hr hf h
    cases c <;> simp only [cfit] at hfit <;> try cases hfit
    exact wp_skip ⟨_, g, h, hr, hf⟩
  | ret =>
    intro c Q S g a w hfit hr hf h
    cases c <;> simp only [cfit] at hfit <;> try cases hfit
    exact wp_ret ⟨S, g, h, hr, hf⟩
  | exit id kl =>
    intro c Q S g a w hfit hr hf h
    cases c <;> simp only [cfit] at hfit <;> try cases hfit
    simp only [beq_iff_eq] at hfit; subst hfit
    exact wp_exit (good_end ⟨S, g, h, hr, hf⟩)
  | reg draw l keep =>
    intro c Q S g a w hfit hr hf h
    cases c <;> simp only [cfit] at hfit <;> try cases hfit
    rename_i id ops draw'
    simp only [Bool.and_eq_true, beq_iff_eq, Bool.or_eq_true, Bool.not_eq_true'] at hfit
    obtain ⟨⟨rfl, h1⟩, h2⟩ := hfit
    have hQ : ∀ a w, Good N w0 g0 ar (fun S' => atEnd S' keep (Q .normal)) a w → liftQ N w0 g0 ar Q .normal a w := fun a w hg => good_end hg
    cases draw' with
    | false =>
      simp only [cwp] at h
      refine wp_region ?_
      have hlen : l.length = ops.size := by have := fitL_len l 0 h1; omega
      have := rwp_sound hN hgl l 0 a w S g h1 hr hf h hQ
      rw [hlen] at this
      rw [List.range_eq_range']
      exact this
    | true =>
      simp only [cwp] at h
      refine wp_region_draw fun t => ?_
      exact draw_sound hN hgl h1 (by simpa using h2) (drew_rel hr) hf h hQ t
  | seq x y ihx ihy =>
    intro c Q S g a w hfit hr hf h
    cases c <;> simp only [cfit] at hfit <;> try cases hfit
    simp only [Bool.and_eq_true] at hfit
    refine wp_seq (wp_mono (ihx _ _ S g a w hfit.1 hr hf h) fun e a' w' hq => ?_)
    cases e with
    | normal => obtain ⟨S', g', k1, k2, k3⟩ := hq; exact ihy _ Q S' g' a' w' hfit.2 k2 k3 k1
    | exit id => exact hq
    | ret => exact hq
    | goto l => exact hq.elim
    | panic ch => exact hq.elim
    | outgrown => exact hq.elim
  | cond cc x y ihx ihy =>
    intro c Q S g a w hfit hr hf h
    cases c <;> simp only [cfit] at hfit <;> try cases hfit
    simp only [Bool.and_eq_true] at hfit
    simp only [cwp] at h
    split at h
    · rename_i t ht
      have hv := lit1_val hr ht
      rw [← opdB_eval hfit.1.1 a] at hv
      exact wp_cond_split hv (fun e => ihx _ Q S g a w hfit.1.2 hr hf (h.1 e)) (fun e => ihy _ Q S g a w hfit.2 hr hf (h.2 e))
    · exact h.elim
  | block id x ih =>
    intro c Q S g a w hfit hr hf h
    cases c <;> simp only [cfit] at hfit <;> try cases hfit
    simp only [Bool.and_eq_true, beq_iff_eq] at hfit
    obtain ⟨rfl, hfit⟩ := hfit
    refine wp_block (wp_mono (ih _ _ S g a w hfit hr hf h) fun e a' w' hq => ?_)
    cases e with
    | normal => exact hq
    | exit i =>
      obtain ⟨S', g', k1, k2, k3⟩ := hq
      simp only [Exit.inBlock]
      simp only at k1
      split
      · rename_i e; rw [if_pos e] at k1; exact ⟨S', g', k1, k2, k3⟩
      · rename_i e; rw [if_neg e] at k1; exact ⟨S', g', k1, k2, k3⟩
    | ret => exact hq
    | goto l => exact hq.elim
    | panic ch => exact hq.elim
    | outgrown => exact hq.elim
  | loop kl x ih =>
    intro c Q S g a w hfit hr hf h
    cases c <;> simp only [cfit] at hfit <;> try cases hfit
    simp only [cwp] at h
    obtain ⟨I, μ, hI, hround⟩ := h
    refine wp_loop_rel (fun n a w => ∃ S g, μ S = n ∧ I S ∧ Rel N w0 g0 ar S a.tmps w g ∧ a.defers = []) ⟨_, _, _, rfl, hI.2, hr.norm hI.1, hf⟩ ?_
    rintro n a w ⟨S, g, rfl, hI, hr, hf⟩
    refine wp_mono (ih _ _ S g a w hfit hr hf (hround S hI)) fun e a' w' hq => ?_
    cases e with
    | normal =>
      obtain ⟨S', g', k1, k2, k3⟩ := hq
      obtain ⟨z1, z2, z3⟩ := k1
      exact ⟨_, z3, _, _, rfl, z2, k2.norm z1, k3⟩
    | exit id => exact hq
    | ret => exact hq
    | goto l => exact hq.elim
    | panic ch => exact hq.elim
    | outgrown => exact hq.elim
end Go.Eng
