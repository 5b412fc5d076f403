/- Trees, who owns a cell, and what a tree is in the model's memory. -/
import Derived.Calls
import Derived.Below
import Derived.Deep.MidRow
import GoSem.Dispatch
import Derived.Laws.Strings
import Derived.Laws.Entries
import Derived.Laws.BytesArg
import Derived.Laws.MakeOwn
set_option linter.unusedSimpArgs false
set_option linter.unusedVariables false
namespace Go.Eng

/-- ow: its elements and its spare room are owned; el: its elements alone; fz: nobody writes them any more. -/
inductive Md where
  | ow | el | fro
  deriving DecidableEq
/-- What one cell holds. -/
inductive T where
  | lit (v : Value)
  | sl (md : Md) (sz : Nat) (rows : List (List T))
  | bad

abbrev Row := List T
abbrev Path := List (Nat × Nat)
/-- A place: a root, one of its cells, and a way down through slices (row, cell). -/
abbrev Lab := Nat × Nat × Path
abbrev Key := Nat × Nat
abbrev Ghost := Nat → Nat → Option Lab

def get2 {α : Type} (rows : List (List α)) (i o : Nat) : Option α := (rows[i]?).bind (·[o]?)

theorem get2_lt {α : Type} {rows : List (List α)} {i o : Nat} {c : α} {sz : Nat} (h : get2 rows i o = some c) (hl : ∀ r ∈ rows, r.length = sz) : i < rows.length ∧ o < sz := by
  unfold get2 at h
  cases hr : rows[i]? with
  | none => simp [hr] at h
  | some r =>
    simp [hr] at h
    have hi := (List.getElem?_eq_some_iff.1 hr).1
    have hm : r ∈ rows := List.mem_of_getElem? hr
    have ho := (List.getElem?_eq_some_iff.1 h).1
    exact ⟨hi, by have := hl r hm; omega⟩
theorem get2_mk {α : Type} {rows : List (List α)} {sz : Nat} (hl : ∀ r ∈ rows, r.length = sz) {i o : Nat} (hi : i < rows.length) (ho : o < sz) : ∃ c, get2 rows i o = some c := by
  unfold get2
  rw [List.getElem?_eq_getElem hi]
  have := hl _ (List.getElem_mem hi)
  exact ⟨_, List.getElem?_eq_getElem (show o < rows[i].length by omega)⟩

theorem idx_lt {i o n sz : Nat} (hi : i < n) (ho : o < sz) : i * sz + o < n * sz := by
  have : (i + 1) * sz ≤ n * sz := Nat.mul_le_mul_right _ hi
  rw [Nat.add_mul, Nat.one_mul] at this
  omega
theorem div_mod_row {j n sz : Nat} (h : j < n * sz) : j / sz < n ∧ j % sz < sz ∧ (j / sz) * sz + j % sz = j := by
  have h0 : 0 < sz := by rcases Nat.eq_zero_or_pos sz with h1 | h1; subst h1; simp at h; exact h1
  refine ⟨(Nat.div_lt_iff_lt_mul h0).2 h, Nat.mod_lt _ h0, Nat.div_add_mod' j sz⟩

/-- Labels of roots that are none of the frame's: of the caller (20001), to be read while the call lasts (20002). -/
def Sp (l : Lab) : Prop := l.1 = 20001 ∨ l.1 = 20002
/-- What a view with these keys may read. -/
def LP (ks : List Key) (l : Option Lab) : Prop := l = none ∨ ∃ x, l = some x ∧ (x.1 = 20002 ∨ (x.1, x.2.1) ∈ ks)
def LF (l : Option Lab) : Prop := l = none
theorem LP.none {ks : List Key} {l : Option Lab} (h : LF l) : LP ks l := .inl h
theorem LP.mono {ks ks' : List Key} {l : Option Lab} (h : LP ks l) (hk : ∀ k ∈ ks, k ∈ ks') : LP ks' l := by
  rcases h with h | ⟨x, h1, h2 | h2⟩
  · exact .inl h
  · exact .inr ⟨x, h1, .inl h2⟩
  · exact .inr ⟨x, h1, .inr (hk _ h2)⟩

/-- A tree that is only read: all its cells are labelled as L tells. -/
inductive ShR (L : Option Lab → Prop) (g : Ghost) (w : World) : T → Value → Prop
  | lit (v : Value) (h1 : v.oneCell' = true) : ShR L g w (.lit v) v
  | bad (v : Value) (h1 : v.oneCell' = true) : ShR L g w .bad v
  | emp (fz : Md) (sz : Nat) (a : Option Addr) (cap : Nat) : ShR L g w (.sl fz sz []) (.slice a 0 cap)
  | sl (fz : Md) (rows : List Row) (b off cap sz : Nat) (arr : Array Value) (e : TypeId) (fr : Nat × Nat)
      (hb : w.heap[b]? = some (.cells arr e fr)) (hl : ∀ r ∈ rows, r.length = sz)
      (hg : ∀ k, off ≤ k → k < off + rows.length * sz → L (g b k)) (hs : off + rows.length * sz ≤ arr.size) (hn : rows.length ≤ 281474976710656) (hle : rows.length ≤ cap)
      (hc : ∀ i o c, get2 rows i o = some c → ShR L g w c (arr.getD (off + i * sz + o) undef)) :
      ShR L g w (.sl fz sz rows) (.slice (some ⟨b, off, none⟩) rows.length cap)

/-- How many rows are owned: with the spare room, or without. -/
def bnd (md : Md) (cap n : Nat) : Nat := if md = .ow then cap else n
theorem bnd_ge {md : Md} {cap n : Nat} (h : n ≤ cap) : n ≤ bnd md cap n := by unfold bnd; split <;> omega
theorem bnd_le {md : Md} {cap n : Nat} (h : n ≤ cap) : bnd md cap n ≤ cap := by unfold bnd; split <;> omega
@[simp] theorem bnd_ow {cap n : Nat} : bnd .ow cap n = cap := rfl
@[simp] theorem bnd_el {cap n : Nat} : bnd .el cap n = n := rfl
/-- A tree that is owned at a place. -/
inductive TR (g : Ghost) (w : World) (r o : Nat) : Path → T → Value → Prop
  | lit (p : Path) (v : Value) (h1 : v.oneCell' = true) : TR g w r o p (.lit v) v
  | bad (p : Path) (v : Value) (h1 : v.oneCell' = true) : TR g w r o p .bad v
  | fro (p : Path) (sz : Nat) (rows : List Row) (v : Value) (h : ShR LF g w (.sl .fro sz rows) v) : TR g w r o p (.sl .fro sz rows) v
  | nil (p : Path) (md : Md) (sz : Nat) (a : Option Addr) (c : Nat) (hm : md ≠ .fro) (hc : md = .ow → c = 0) : TR g w r o p (.sl md sz []) (.slice a 0 c)
  | own (p : Path) (md : Md) (rows : List Row) (b off cap sz : Nat) (arr : Array Value) (e : TypeId) (hm : md ≠ .fro)
      (hb : w.heap[b]? = some (.cells arr e (0, 0))) (hl : ∀ r ∈ rows, r.length = sz) (hs : off + bnd md cap rows.length * sz ≤ arr.size) (hle : rows.length ≤ cap) (h0 : 0 < sz)
      (hn : rows.length ≤ 281474976710656) (hlab : ∀ i o', i < bnd md cap rows.length → o' < sz → g b (off + i * sz + o') = some (r, o, p ++ [(i, o')]))
      (hc : ∀ i o' c, get2 rows i o' = some c → TR g w r o (p ++ [(i, o')]) c (arr.getD (off + i * sz + o') undef)) :
      TR g w r o p (.sl md sz rows) (.slice (some ⟨b, off, none⟩) rows.length cap)

/-- One block, but for some cells. -/
def blockSim (M : Nat → Prop) (o o' : Obj) : Prop :=
  o = o' ∨ ∃ c c' e fr, o = .cells c e fr ∧ o' = .cells c' e fr ∧ c.size = c'.size ∧ ∀ k, ¬ M k → c[k]? = c'[k]?

/-- A later world: blocks come behind, and of the old ones only the cells of M may have turned. -/
structure Step (M : Nat → Nat → Prop) (w w' : World) : Prop where
  os : w'.os = w.os
  tape : w'.tape = w.tape
  output : w'.output = w.output
  size : w.heap.size ≤ w'.heap.size
  block : ∀ b o, w.heap[b]? = some o → ∃ o', w'.heap[b]? = some o' ∧ blockSim (M b) o o'

theorem blockSim.refl (M : Nat → Prop) (o : Obj) : blockSim M o o := .inl rfl
theorem Step.refl (M : Nat → Nat → Prop) (w : World) : Step M w w := ⟨rfl, rfl, rfl, Nat.le_refl _, fun b o h => ⟨o, h, .inl rfl⟩⟩
theorem blockSim.mono {M M' : Nat → Prop} {o o' : Obj} (h : blockSim M o o') (hm : ∀ k, M k → M' k) : blockSim M' o o' := by
  rcases h with h | ⟨c, c', e, fr, h1, h2, h3, h4⟩
  · exact .inl h
  · exact .inr ⟨c, c', e, fr, h1, h2, h3, fun k hk => h4 k fun h => hk (hm k h)⟩
theorem blockSim.trans {M : Nat → Prop} {a b c : Obj} (h : blockSim M a b) (k : blockSim M b c) : blockSim M a c := by
  rcases h with rfl | ⟨x, y, e, fr, rfl, rfl, h3, h4⟩
  · exact k
  · rcases k with rfl | ⟨x', y', e', fr', k1, rfl, k3, k4⟩
    · exact .inr ⟨x, y, e, fr, rfl, rfl, h3, h4⟩
    · injection k1 with k1 k2 k5
      subst k1; subst k2; subst k5
      exact .inr ⟨x, y', e, fr, rfl, rfl, h3.trans k3, fun n hn => (h4 n hn).trans (k4 n hn)⟩
theorem Step.mono {M M' : Nat → Nat → Prop} {w w' : World} (h : Step M w w') (hm : ∀ b k, b < w.heap.size → M b k → M' b k) : Step M' w w' :=
  ⟨h.os, h.tape, h.output, h.size, fun b o hb => by
    obtain ⟨o', h1, h2⟩ := h.block b o hb
    exact ⟨o', h1, h2.mono fun k hk => hm b k (Array.getElem?_eq_some_iff.1 hb).1 hk⟩⟩
/-- Two steps: of what came in between, all may turn. -/
theorem Step.trans {M N : Nat → Nat → Prop} {a b c : World} (h : Step M a b) (k : Step N b c) (hN : ∀ x y, x < a.heap.size → N x y → M x y) : Step M a c :=
  ⟨k.os.trans h.os, k.tape.trans h.tape, k.output.trans h.output, Nat.le_trans h.size k.size, fun x o hx => by
    obtain ⟨o1, h1, h2⟩ := h.block x o hx
    obtain ⟨o2, k1, k2⟩ := k.block x o1 h1
    exact ⟨o2, k1, h2.trans (k2.mono fun y hy => hN x y (Array.getElem?_eq_some_iff.1 hx).1 hy)⟩⟩
theorem Step.cells {M : Nat → Nat → Prop} {w w' : World} (h : Step M w w') {b : Nat} {arr : Array Value} {e : TypeId} {fr : Nat × Nat}
    (hb : w.heap[b]? = some (.cells arr e fr)) : ∃ arr', w'.heap[b]? = some (.cells arr' e fr) ∧ arr'.size = arr.size ∧ ∀ k, ¬ M b k → arr'[k]? = arr[k]? := by
  obtain ⟨o', h1, h2⟩ := h.block b _ hb
  rcases h2 with rfl | ⟨c, c', e', fr', k1, rfl, k3, k4⟩
  · exact ⟨arr, h1, rfl, fun _ _ => rfl⟩
  · injection k1 with k1 k2 k5
    subst k1; subst k2; subst k5
    exact ⟨c', h1, k3.symm, fun k hk => (k4 k hk).symm⟩
theorem getD_of_getElem? {arr arr' : Array Value} {k : Nat} (h : arr'[k]? = arr[k]?) : arr'.getD k undef = arr.getD k undef := by
  simp only [Array.getD_eq_getD_getElem?, h]
theorem lt_of_cells {w : World} {b : Nat} {o : Obj} (h : w.heap[b]? = some o) : b < w.heap.size := (Array.getElem?_eq_some_iff.1 h).1

/-- What is only read lives on, where no such cell is written and their labels are still such. -/
theorem ShR.map {L L' : Option Lab → Prop} {g g' : Ghost} {w w' : World} {c : T} {v : Value} (h : ShR L g w c v) {M : Nat → Nat → Prop} (hs : Step M w w')
    (hL : ∀ b k, b < w.heap.size → L (g b k) → ¬ M b k ∧ L' (g' b k)) : ShR L' g' w' c v := by
  induction h with
  | lit v h1 => exact .lit v h1
  | bad v h1 => exact .bad v h1
  | emp fz sz a cap => exact .emp fz sz a cap
  | sl fz rows b off cap sz arr e fr hb hl hgn hsz hn hle hc ih =>
    obtain ⟨arr', h1, h2, h3⟩ := hs.cells hb
    have hlt := lt_of_cells hb
    refine .sl fz rows b off cap sz arr' e fr h1 hl (fun k k1 k2 => (hL _ _ hlt (hgn k k1 k2)).2) (by omega) hn hle fun i o c hgc => ?_
    obtain ⟨hi, ho⟩ := get2_lt hgc hl
    have hlt2 := idx_lt hi ho
    rw [getD_of_getElem? (h3 (off + i * sz + o) (hL _ _ hlt (hgn _ (by omega) (by omega))).1)]
    exact ih i o c hgc
theorem ShR.mono {L L' : Option Lab → Prop} {g : Ghost} {w : World} {c : T} {v : Value} (h : ShR L g w c v) (hL : ∀ l, L l → L' l) : ShR L' g w c v :=
  h.map (Step.refl (fun _ _ => False) w) fun b k _ hl => ⟨fun h => h, hL _ hl⟩

/-- What is owned lives on, also at another place, where its labels follow. -/
theorem TR.map {g g' : Ghost} {w w' : World} {r o r' o' : Nat} {p : Path} {c : T} {v : Value} (h : TR g w r o p c v) {M : Nat → Nat → Prop} (hs : Step M w w')
    (hF : ∀ b k, b < w.heap.size → g b k = none → ¬ M b k ∧ g' b k = none) : ∀ (p' : Path),
    (∀ b k q, b < w.heap.size → q ≠ [] → g b k = some (r, o, p ++ q) → ¬ M b k ∧ g' b k = some (r', o', p' ++ q)) → TR g' w' r' o' p' c v := by
  induction h with
  | lit p v h1 => exact fun p' _ => .lit p' v h1
  | bad p v h1 => exact fun p' _ => .bad p' v h1
  | fro p sz rows v h => exact fun p' _ => .fro p' sz rows v (h.map hs hF)
  | nil p md sz a c hm hc => exact fun p' _ => .nil p' md sz a c hm hc
  | own p md rows b off cap sz arr e hm hb hl hsz hle h0 hn hlab hc ih =>
    have hbd := bnd_ge (md := md) hle
    intro p' hO
    obtain ⟨arr', h1, h2, h3⟩ := hs.cells hb
    have hlt := lt_of_cells hb
    refine .own p' md rows b off cap sz arr' e hm h1 hl (by omega) hle h0 hn (fun i o hi ho => (hO _ _ _ hlt (by simp) (hlab i o hi ho)).2) fun i o c hgc => ?_
    obtain ⟨hi, ho⟩ := get2_lt hgc hl
    rw [getD_of_getElem? (h3 (off + i * sz + o) (hO _ _ _ hlt (by simp) (hlab i o (by omega) ho)).1)]
    refine ih i o c hgc (p' ++ [(i, o)]) fun b k q hb' hq hg => ?_
    rw [List.append_assoc] at hg
    have := hO b k ([(i, o)] ++ q) hb' (by simp) hg
    rwa [← List.append_assoc] at this

theorem ShR.one {L : Option Lab → Prop} {g : Ghost} {w : World} {c : T} {v : Value} (h : ShR L g w c v) : v.oneCell' = true := by
  cases h <;> first | assumption | rfl
theorem TR.one {g : Ghost} {w : World} {r o : Nat} {p : Path} {c : T} {v : Value} (h : TR g w r o p c v) : v.oneCell' = true := by
  cases h <;> first | assumption | rfl | (rename_i h; exact h.one)

/-- What is owned reads as a view of its root's cell. -/
theorem TR.sh {g : Ghost} {w : World} {r o : Nat} {p : Path} {c : T} {v : Value} (h : TR g w r o p c v) : ShR (LP [(r, o)]) g w c v := by
  induction h with
  | lit p v h1 => exact .lit v h1
  | bad p v h1 => exact .bad v h1
  | fro p sz rows v h => exact h.mono fun l hl => .inl hl
  | nil p md sz a c hm hc => exact .emp _ _ _ _
  | own p md rows b off cap sz arr e hm hb hl hsz hle h0 hn hlab hc ih =>
    have hbd := bnd_ge (md := md) hle
    have h1 : rows.length * sz ≤ bnd md cap rows.length * sz := Nat.mul_le_mul_right _ hbd
    refine .sl md rows b off cap sz arr e (0, 0) hb hl (fun k k1 k2 => ?_) (by omega) hn hle fun i o c hgc => ih i o c hgc
    obtain ⟨q1, q2, q3⟩ := div_mod_row (j := k - off) (n := rows.length) (sz := sz) (by omega)
    have := hlab _ _ (show (k - off) / sz < bnd md cap rows.length by omega) q2
    rw [show off + (k - off) / sz * sz + (k - off) % sz = k by omega] at this
    exact .inr ⟨_, this, .inr (by simp)⟩

/-- The head of a cell: what its value is, whatever becomes of memory. -/
def HdR : T → Value → Prop
  | .lit v, x => x = v ∧ v.oneCell' = true
  | .bad, x => x.oneCell' = true
  | .sl _ _ rows, x => ∃ a c, x = .slice a rows.length c ∧ rows.length ≤ c ∧ rows.length ≤ 281474976710656 ∧ (0 < rows.length → ∃ b off, a = some ⟨b, off, none⟩)
theorem ShR.hd {L : Option Lab → Prop} {g : Ghost} {w : World} {c : T} {v : Value} (h : ShR L g w c v) : HdR c v := by
  cases h with
  | lit v h1 => exact ⟨rfl, h1⟩
  | bad v h1 => exact h1
  | emp fz sz a cap => exact ⟨a, cap, rfl, by simp, by simp, by simp⟩
  | sl fz rows b off cap sz arr e fr hb hl hg hs hn hle hc => exact ⟨_, cap, rfl, hle, hn, fun _ => ⟨b, off, rfl⟩⟩
theorem TR.hd {g : Ghost} {w : World} {r o : Nat} {p : Path} {c : T} {v : Value} (h : TR g w r o p c v) : HdR c v := h.sh.hd
theorem HdR.one {c : T} {v : Value} (h : HdR c v) : v.oneCell' = true := by
  cases c with
  | lit x => rw [h.1]; exact h.2
  | bad => exact h
  | sl fz sz rows => obtain ⟨a, c, rfl, _⟩ := h; rfl

/-- A view's cells are the owned ones of a place, from row lo on. -/
def PlR (g : Ghost) (w : World) (l : Lab) (lo : Nat) (t : T) (v : Value) : Prop :=
  match t with
  | .sl md sz rows => ∀ a n c, v = .slice a n c → 0 < bnd md c rows.length → ∃ b off arr e, a = some ⟨b, off, none⟩ ∧ 0 < sz ∧ w.heap[b]? = some (.cells arr e (0, 0)) ∧ off + bnd md c rows.length * sz ≤ arr.size ∧
      ∀ i o', i < bnd md c rows.length → o' < sz → g b (off + i * sz + o') = some (l.1, l.2.1, l.2.2 ++ [(lo + i, o')])
  | _ => True
theorem TR.pl {g : Ghost} {w : World} {r o : Nat} {p : Path} {md : Md} {sz : Nat} {rows : List Row} {v : Value} (h : TR g w r o p (.sl md sz rows) v) (hm : md ≠ .fro) : PlR g w (r, o, p) 0 (.sl md sz rows) v := by
  cases h with
  | fro => exact absurd rfl hm
  | nil p md sz a c0 _ h0 =>
    intro b n c e hc
    injection e with _ _ e; subst e
    unfold bnd at hc
    split at hc
    · have := h0 (by assumption); omega
    · simp at hc
  | own p md rows b off cap sz arr e _ hb hl hsz hle h0 hn hlab hc =>
    intro a n c e hc
    injection e with e1 e2 e3
    subst e1; subst e3
    exact ⟨b, off, arr, _, rfl, h0, hb, hsz, fun i o' hi ho => by simpa using hlab i o' hi ho⟩

end Go.Eng

namespace Go.Eng

/-- A cell of a variable: owned, or a view of what another one owns (where it lies; the keys that it reads; what it reads). -/
inductive Cl where
  | ow (t : T)
  | vw (pl : Option (Lab × Nat)) (ks : List Key) (t : T)

/-- What a variable holds. Numbers below 10000: the frame's slots; 10000 + d: the memory that slot d made; 15000 + j: memory of the caller's; 16000 + i: what lies behind the i-th argument. -/
inductive A where
  | any
  | val (agg : Bool) (row : List Cl)
  | tup (rs : List (Bool × List Cl))
  | mem (row : List Cl)
  | hid (row : Row)
  | pr (r o : Nat)
  | pe (pl : Option (Nat × Nat × Path × Nat × Nat)) (ks : List Key) (row : Row)
  | fn (f : FuncId) (ks : List Key) (rows : List Row)
  | al (m : Nat) (agg : Bool)

def Vd (K ks : List Key) : Prop := ∀ k ∈ ks, k ∉ K ∧ k.1 < 19000
theorem Vd.mono {K K' ks : List Key} (h : Vd K' ks) (hK : ∀ k ∈ K, k ∈ K') : Vd K ks := fun k hk => ⟨fun hm => (h k hk).1 (hK k hm), (h k hk).2⟩

def ClR (K : List Key) (g : Ghost) (w : World) (r o : Nat) : Cl → Value → Prop
  | .ow t, v => TR g w r o [] t v
  | .vw pl ks t, v => HdR t v ∧ (Vd K ks → ShR (LP ks) g w t v ∧ ∀ l lo, pl = some (l, lo) → (l.1, l.2.1) ∈ ks ∧ PlR g w l lo t v)
def Cl.tree : Cl → T
  | .ow t => t
  | .vw _ _ t => t
theorem ClR.hd {K : List Key} {g : Ghost} {w : World} {r o : Nat} {c : Cl} {v : Value} (h : ClR K g w r o c v) : HdR c.tree v := by
  cases c with
  | ow t => exact TR.hd h
  | vw pl ks t => exact h.1
theorem ClR.one {K : List Key} {g : Ghost} {w : World} {r o : Nat} {c : Cl} {v : Value} (h : ClR K g w r o c v) : v.oneCell' = true := h.hd.one

def ValR (K : List Key) (g : Ghost) (w : World) (r base : Nat) : Bool → List Cl → Value → Prop
  | false, [c], v => ClR K g w r base c v
  | false, _, _ => False
  | true, row, v => ∃ arr, v = .agg arr ∧ arr.size = row.length ∧ ∀ o c, row[o]? = some c → ClR K g w r (base + o) c (arr.getD o undef)

/-- A pointer to cells that read as a row. -/
def PtR (K : List Key) (g : Ghost) (w : World) (pl : Option (Nat × Nat × Path × Nat × Nat)) (ks : List Key) (row : Row) (v : Value) : Prop :=
  ∃ b k, v = .pointer (some ⟨b, k, none⟩) ∧ (Vd K ks → ∃ arr e fr, w.heap[b]? = some (.cells arr e fr) ∧ k + row.length ≤ arr.size ∧ (∀ j, j < row.length → LP ks (g b (k + j))) ∧
    (∀ j c, row[j]? = some c → ShR (LP ks) g w c (arr.getD (k + j) undef)) ∧
    ∀ r o p i oo, pl = some (r, o, p, i, oo) → (r, o) ∈ ks ∧ fr = (0, 0) ∧ ∀ j, j < row.length → g b (k + j) = some (r, o, p ++ [(i, oo + j)]))

def VarR (K : List Key) (g : Ghost) (w : World) (tm ar : Array Value) (t : Nat) : A → Prop
  | .any => True
  | .val agg row => ValR K g w t 0 agg row (tm.getD t undef)
  | .tup rs => ∃ vs, tm.getD t undef = .tuple vs ∧ vs.size = rs.length ∧ ∀ m agg row, rs[m]? = some (agg, row) → row.length ≤ 1000 ∧ ValR K g w t (1000 * m) agg row (vs.getD m undef)
  | .mem row => ∃ b k0 arr e, w.heap[b]? = some (.cells arr e (0, 0)) ∧ k0 + row.length ≤ arr.size ∧
      ∀ o c, row[o]? = some c → g b (k0 + o) = some (t, o, []) ∧ ClR K g w t o c (arr.getD (k0 + o) undef)
  | .hid row => (ar.getD (t - 16000) undef).cells.size = row.length ∧ ∀ o c, row[o]? = some c → TR g w t o [] c ((ar.getD (t - 16000) undef).cells.getD o undef)
  | .pr r o => ∃ b k, tm.getD t undef = .pointer (some ⟨b, k, none⟩) ∧ g b k = some (r, o, [])
  | .pe pl ks row => PtR K g w pl ks row (tm.getD t undef)
  | .fn f ks rows => ∃ caps, tm.getD t undef = .func (.func f) #[] caps ∧ caps.size = rows.length ∧ ∀ i row, rows[i]? = some row → PtR K g w none ks row (caps.getD i undef)
  | .al m agg => tm.getD t undef = ar.getD m undef ∧ ((agg = true ∧ ∃ arr, tm.getD t undef = .agg arr) ∨ (agg = false ∧ (tm.getD t undef).oneCell' = true))

structure St where
  s : List (Nat × A)
  k : List Key

def getL : List (Nat × A) → Nat → A
  | [], _ => .any
  | (k, a) :: l, v => if v = k then a else getL l v
def St.get (S : St) (v : Nat) : A := getL S.s v
def St.put (S : St) (d : Nat) (a : A) : St := ⟨(d, a) :: S.s, S.k⟩
def St.kl (S : St) (ks : List Key) : St := ⟨S.s, ks ++ S.k⟩
theorem St.get_put (S : St) (d : Nat) (a : A) (v : Nat) : (S.put d a).get v = if v = d then a else S.get v := rfl
theorem St.get_kl (S : St) (ks : List Key) (v : Nat) : (S.kl ks).get v = S.get v := rfl
theorem St.k_put (S : St) (d : Nat) (a : A) : (S.put d a).k = S.k := rfl
theorem St.k_kl (S : St) (ks : List Key) : (S.kl ks).k = ks ++ S.k := rfl

def ownC : Cl → Bool
  | .ow (.sl .ow _ _) => true
  | .ow (.sl .el _ _) => true
  | _ => false
/-- Has the variable owned memory behind this cell? -/
def ownAt : A → Nat → Bool
  | .val _ row, o => match row[o]? with | some c => ownC c | none => false
  | .tup rs, o => match rs[o / 1000]? with | some r => (match r.2[o % 1000]? with | some c => ownC c | none => false) | none => false
  | .mem row, o => decide (o < row.length)
  | .hid row, o => match row[o]? with | some t => ownC (.ow t) | none => false
  | _, _ => false

/-- May a label of this kind be there? -/
def hasL : A → Nat → Path → Bool
  | .mem row, o, [] => decide (o < row.length)
  | _, _, [] => false
  | a, o, _ :: _ => ownAt a o

/-- What a frame may write of what there was when it began. -/
def Wr (g : Ghost) (b k : Nat) : Prop := ∃ l, g b k = some l ∧ ¬ Sp l

structure Rel (N : Nat) (w0 : World) (g0 : Ghost) (ar : Array Value) (S : St) (tm : Array Value) (w : World) (g : Ghost) : Prop where
  size : tm.size = N
  inj : ∀ b k b' k' l, g b k = some l → g b' k' = some l → b = b' ∧ k = k'
  old : ∀ b k l, g b k = some l → b < w.heap.size
  step : Step (Wr g0) w0 w
  none : ∀ b k, b < w0.heap.size → g0 b k = none → g b k = none
  sp : ∀ b k l, Sp l → (g0 b k = some l ↔ g b k = some l)
  outk : ∀ b k r o, 15000 ≤ r → r < 16000 → g0 b k = some (r, o, []) → g b k = some (r, o, [])
  lab : ∀ b k l, g b k = some l → Sp l ∨ 19000 ≤ l.1 ∨ hasL (S.get l.1) l.2.1 l.2.2 = true
  hi : ∀ v, 19000 ≤ v → S.get v = .any
  slot : ∀ v row, v < 10000 → S.get v ≠ .mem row
  vars : ∀ v, VarR S.k g w tm ar v (S.get v)

theorem TR.keep {g g' : Ghost} {w w' : World} {r o : Nat} {p : Path} {c : T} {v : Value} (h : TR g w r o p c v) {M : Nat → Nat → Prop} (hs : Step M w w')
    (hF : ∀ b k, b < w.heap.size → g b k = none → ¬ M b k ∧ g' b k = none)
    (hO : ownC (.ow c) = true → ∀ b k q, b < w.heap.size → q ≠ [] → g b k = some (r, o, p ++ q) → ¬ M b k ∧ g' b k = some (r, o, p ++ q)) : TR g' w' r o p c v := by
  cases c with
  | lit x => cases h with | lit _ _ h1 => exact .lit _ _ h1
  | bad => cases h with | bad _ _ h1 => exact .bad _ _ h1
  | sl fz sz rows =>
    cases fz with
    | fro => cases h with
      | fro _ _ _ _ h => exact .fro _ _ _ _ (h.map hs hF)
      | nil _ _ _ _ _ hm => exact absurd rfl hm
      | own _ _ _ _ _ _ _ _ _ hm => exact absurd rfl hm
    | ow => exact h.map hs hF p (hO rfl)
    | el => exact h.map hs hF p (hO rfl)

section chg
variable {K K' : List Key} {D : Key → Prop} {g g' : Ghost} {w w' : World} {M : Nat → Nat → Prop}

/-- All that a change leaves alone: what has a label whose key is none of D. -/
structure Chg (K K' : List Key) (D : Key → Prop) (g g' : Ghost) (w w' : World) (M : Nat → Nat → Prop) : Prop where
  st : Step M w w'
  K : ∀ k ∈ K, k ∈ K'
  DK : ∀ k, D k → k ∈ K' ∨ 19000 ≤ k.1
  old : ∀ b k l, g b k = some l → b < w.heap.size
  none : ∀ b k, b < w.heap.size → g b k = none → ¬ M b k ∧ g' b k = none
  un : ∀ b k l, g b k = some l → (Sp l ∨ ¬ D (l.1, l.2.1)) → ¬ M b k ∧ g' b k = some l
  root : ∀ b k r o, g b k = some (r, o, []) → g' b k = some (r, o, [])

theorem Vd.nd {ks : List Key} (h : Vd K' ks) (hD : ∀ k, D k → k ∈ K' ∨ 19000 ≤ k.1) {k : Key} (hk : k ∈ ks) : ¬ D k := fun hd => by
  have := h k hk
  rcases hD k hd with h1 | h1
  · exact this.1 h1
  · omega
theorem Chg.lp (h : Chg K K' D g g' w w' M) {ks : List Key} (hv : Vd K' ks) {b k : Nat} (hb : b < w.heap.size) (hl : LP ks (g b k)) : ¬ M b k ∧ LP ks (g' b k) := by
  rcases hl with hl | ⟨x, h1, h2⟩
  · have := h.none b k hb hl; exact ⟨this.1, .inl this.2⟩
  · have := h.un b k x h1 (by rcases h2 with h2 | h2; exact .inl (.inr h2); exact .inr (hv.nd h.DK h2))
    exact ⟨this.1, .inr ⟨x, this.2, h2⟩⟩
theorem Chg.tr (hc : Chg K K' D g g' w w' M) {r o : Nat} {p : Path} {t : T} {v : Value} (h : TR g w r o p t v) (ho : ownC (.ow t) = true → ¬ D (r, o)) : TR g' w' r o p t v :=
  h.keep hc.st hc.none fun e b k q hb hq hg => hc.un b k _ hg (.inr (ho e))
theorem Chg.sh (hc : Chg K K' D g g' w w' M) {ks : List Key} (hv : Vd K' ks) {t : T} {v : Value} (h : ShR (LP ks) g w t v) : ShR (LP ks) g' w' t v :=
  h.map hc.st fun b k hb hl => hc.lp hv hb hl
theorem Chg.pl (hc : Chg K K' D g g' w w' M) {l : Lab} {lo : Nat} {t : T} {v : Value} (h : PlR g w l lo t v) (hk : ¬ D (l.1, l.2.1)) : PlR g' w' l lo t v := by
  cases t with
  | sl fz sz rows =>
    intro a n c e h0
    obtain ⟨b, off, arr, ee, q, q0, q1, q2, q3⟩ := h a n c e h0
    obtain ⟨arr', k1, k2, _⟩ := hc.st.cells q1
    exact ⟨b, off, arr', ee, q, q0, k1, by omega, fun i o' hi ho' => (hc.un _ _ _ (q3 i o' hi ho') (.inr hk)).2⟩
  | _ => trivial
theorem ClR.chg {r o : Nat} {c : Cl} {v : Value} (h : ClR K g w r o c v) (hc : Chg K K' D g g' w w' M) (ho : ownC c = true → ¬ D (r, o)) : ClR K' g' w' r o c v := by
  cases c with
  | ow t => exact hc.tr h ho
  | vw pl ks t =>
    refine ⟨h.1, fun hv => ?_⟩
    obtain ⟨h1, h2⟩ := h.2 (hv.mono hc.K)
    refine ⟨hc.sh hv h1, fun l lo e => ?_⟩
    obtain ⟨q1, q2⟩ := h2 l lo e
    exact ⟨q1, hc.pl q2 (hv.nd hc.DK q1)⟩
theorem ValR.chg {r base : Nat} {agg : Bool} {row : List Cl} {v : Value} (h : ValR K g w r base agg row v) (hc : Chg K K' D g g' w w' M)
    (ho : ∀ o c, row[o]? = some c → ownC c = true → ¬ D (r, base + o)) : ValR K' g' w' r base agg row v := by
  cases agg with
  | true =>
    obtain ⟨arr, rfl, h1, h2⟩ := h
    exact ⟨arr, rfl, h1, fun o c e => (h2 o c e).chg hc (ho o c e)⟩
  | false =>
    match row, h, ho with
    | [c], h, ho => exact ClR.chg h hc (ho 0 c rfl)
theorem PtR.chg {pl : Option (Nat × Nat × Path × Nat × Nat)} {ks : List Key} {row : Row} {v : Value} (h : PtR K g w pl ks row v) (hc : Chg K K' D g g' w w' M) : PtR K' g' w' pl ks row v := by
  obtain ⟨b, k, e, h⟩ := h
  refine ⟨b, k, e, fun hv => ?_⟩
  obtain ⟨arr, e, fr, h1, h2, h3, h4, h5⟩ := h (hv.mono hc.K)
  have hlt := lt_of_cells h1
  obtain ⟨arr', k1, k2, k3⟩ := hc.st.cells h1
  refine ⟨arr', e, fr, k1, by omega, fun j hj => (hc.lp hv hlt (h3 j hj)).2, fun j c hj => ?_, fun r o p i oo he => ?_⟩
  · rw [getD_of_getElem? (k3 _ (hc.lp hv hlt (h3 j (List.getElem?_eq_some_iff.1 hj).1)).1)]
    exact hc.sh hv (h4 j c hj)
  · obtain ⟨q1, q2, q3⟩ := h5 r o p i oo he
    exact ⟨q1, q2, fun j hj => (hc.un _ _ _ (q3 j hj) (.inr (hv.nd hc.DK q1))).2⟩
/-- A variable whose own memory the change leaves alone. -/
theorem VarR.chg {tm tm' ar : Array Value} {v : Nat} {a : A} (h : VarR K g w tm ar v a) (hc : Chg K K' D g g' w w' M) (ht : tm'.getD v undef = tm.getD v undef)
    (ho : ∀ o, ownAt a o = true → ¬ D (v, o)) : VarR K' g' w' tm' ar v a := by
  cases a with
  | any => trivial
  | val agg row =>
    simp only [VarR, ht]
    refine ValR.chg h hc fun o c e hcc => ?_
    rw [Nat.zero_add]; exact ho o (by simp [ownAt, e, hcc])
  | tup rs =>
    obtain ⟨vs, h1, h2, h3⟩ := h
    refine ⟨vs, by rw [ht]; exact h1, h2, fun m agg row e => ?_⟩
    obtain ⟨q1, q2⟩ := h3 m agg row e
    refine ⟨q1, q2.chg hc fun o c e' hcc => ho _ ?_⟩
    have hlt := (List.getElem?_eq_some_iff.1 e').1
    have e1 : (1000 * m + o) / 1000 = m := by omega
    have e2 : (1000 * m + o) % 1000 = o := by omega
    simp [ownAt, e1, e2, e, e', hcc]
  | mem row =>
    obtain ⟨b, k0, arr, e, h1, h2, h3⟩ := h
    obtain ⟨arr', k1, k2, k3⟩ := hc.st.cells h1
    refine ⟨b, k0, arr', e, k1, by omega, fun o c e' => ?_⟩
    obtain ⟨q1, q2⟩ := h3 o c e'
    have hk := ho o (by simp [ownAt, (List.getElem?_eq_some_iff.1 e').1])
    have := hc.un _ _ _ q1 (.inr hk)
    refine ⟨this.2, ?_⟩
    rw [getD_of_getElem? (k3 _ this.1)]
    exact q2.chg hc fun _ => hk
  | hid row =>
    obtain ⟨h1, h2⟩ := h
    exact ⟨h1, fun o c e' => hc.tr (h2 o c e') fun hown => ho o (by simp only [ownAt, e']; exact hown)⟩
  | pr r o =>
    obtain ⟨b, k, h1, h2⟩ := h
    exact ⟨b, k, by rw [ht]; exact h1, hc.root _ _ _ _ h2⟩
  | pe pl ks row => simp only [VarR, ht]; exact PtR.chg h hc
  | fn f ks rows =>
    obtain ⟨caps, h1, h2, h3⟩ := h
    exact ⟨caps, by rw [ht]; exact h1, h2, fun i row e => (h3 i row e).chg hc⟩
  | al m agg => simp only [VarR, ht]; exact h
end chg

variable {N : Nat} {w0 : World} {g0 : Ghost} {ar tm : Array Value} {S : St} {w : World} {g : Ghost}

/-- A frame behind a change: what must be shown of it. -/
theorem Rel.chg (h : Rel N w0 g0 ar S tm w g) {S' : St} {tm' : Array Value} {w' : World} {g' : Ghost} {D : Key → Prop} {M : Nat → Nat → Prop} (hc : Chg S.k S'.k D g g' w w' M) (hsize : tm'.size = N)
    (hM : ∀ b k, b < w.heap.size → M b k → ∃ l, g b k = some l ∧ ¬ Sp l)
    (hsp : ∀ b k l, Sp l → g' b k = some l → g b k = some l)
    (hinj : ∀ b k b' k' l, g' b k = some l → g' b' k' = some l → b = b' ∧ k = k') (hold : ∀ b k l, g' b k = some l → b < w'.heap.size)
    (hlab : ∀ b k l, g' b k = some l → Sp l ∨ 19000 ≤ l.1 ∨ hasL (S'.get l.1) l.2.1 l.2.2 = true)
    (hhi : ∀ v, 19000 ≤ v → S'.get v = .any) (hslot : ∀ v row, v < 10000 → S'.get v ≠ .mem row)
    (hv : ∀ v, (tm'.getD v undef = tm.getD v undef ∧ S'.get v = S.get v ∧ ∀ o, ownAt (S.get v) o = true → ¬ D (v, o)) ∨ VarR S'.k g' w' tm' ar v (S'.get v)) : Rel N w0 g0 ar S' tm' w' g' where
  size := hsize
  inj := hinj
  old := hold
  step := h.step.trans hc.st fun x y hx hm => by
    obtain ⟨l, h1, h2⟩ := hM x y (Nat.lt_of_lt_of_le hx h.step.size) hm
    cases h0 : g0 x y with
    | none => rw [h.none x y hx h0] at h1; cases h1
    | some l0 => exact ⟨l0, h0, fun hs => h2 (by have := (h.sp x y l0 hs).1 h0; rw [h1] at this; injection this with this; rwa [this])⟩
  none := fun b k hb hn => (hc.none b k (Nat.lt_of_lt_of_le hb h.step.size) (h.none b k hb hn)).2
  sp := fun b k l hs => ⟨fun h0 => (hc.un b k l ((h.sp b k l hs).1 h0) (.inl hs)).2, fun h0 => (h.sp b k l hs).2 (hsp b k l hs h0)⟩
  outk := fun b k r o h1 h2 h3 => hc.root b k r o (h.outk b k r o h1 h2 h3)
  lab := hlab
  hi := hhi
  slot := hslot
  vars := fun v => by
    rcases hv v with ⟨h1, h2, h3⟩ | hv
    · rw [h2]; exact (h.vars v).chg hc h1 h3
    · exact hv

theorem getD_set {tm : Array Value} {d t : Nat} {v : Value} (h : t ≠ d) : (tm.setIfInBounds d v).getD t undef = tm.getD t undef := by
  simp only [Array.getD_eq_getD_getElem?, Array.getElem?_setIfInBounds]
  rw [if_neg (Ne.symm h)]
theorem getD_set_self {tm : Array Value} {d : Nat} {v : Value} (h : d < tm.size) : (tm.setIfInBounds d v).getD d undef = v := by
  simp [Array.getD_eq_getD_getElem?, Array.getElem?_setIfInBounds, h]

end Go.Eng

namespace Go.Eng

def set2 (rows : List Row) (i o : Nat) (c : T) : List Row := rows.modify i fun r => r.set o c
theorem set2_len (rows : List Row) (i o : Nat) (c : T) : (set2 rows i o c).length = rows.length := by simp [set2]
theorem set2_rows {rows : List Row} {sz : Nat} (hl : ∀ r ∈ rows, r.length = sz) (i o : Nat) (c : T) : ∀ r ∈ set2 rows i o c, r.length = sz := by
  intro r hr
  unfold set2 at hr
  obtain ⟨j, hj, rfl⟩ := List.getElem_of_mem hr
  rw [List.getElem_modify]
  split
  · simp; exact hl _ (List.getElem_mem _)
  · exact hl _ (List.getElem_mem _)
theorem get2_set2 {rows : List Row} {i o i' o' : Nat} {c c' : T} (h : get2 (set2 rows i o c) i' o' = some c') :
    (i' = i ∧ o' = o ∧ c' = c) ∨ ((i' ≠ i ∨ o' ≠ o) ∧ get2 rows i' o' = some c') := by
  unfold get2 set2 at *
  rw [List.getElem?_modify] at h
  by_cases hi : i = i'
  · subst hi
    simp only [if_true] at h
    cases hr : rows[i]? with
    | none => simp [hr] at h
    | some r =>
      have hr2 : ((fun a => List.set a o c) <$> some r) = some (List.set r o c) := rfl
      simp only [hr, hr2, Option.bind_some, List.getElem?_set] at h
      simp only [Option.bind_some]
      by_cases ho : o = o'
      · subst ho
        simp only [if_true] at h
        split at h
        · injection h with h2
          exact .inl ⟨trivial, rfl, h2.symm⟩
        · cases h
      · rw [if_neg ho] at h
        exact .inr ⟨.inr (Ne.symm ho), h⟩
  · simp only [if_neg hi] at h
    exact .inr ⟨.inl (Ne.symm hi), by simpa using h⟩

/-- The part of a tree at a path; the tree with another part there. -/
def T.kids : T → Option (List Row)
  | .sl .ow _ rows => some rows
  | .sl .el _ rows => some rows
  | _ => none
theorem T.kids_some {t : T} {rows : List Row} (h : t.kids = some rows) : ∃ md sz, t = .sl md sz rows ∧ md ≠ .fro := by
  cases t with
  | sl md sz r => cases md <;> simp [T.kids] at h <;> subst h <;> exact ⟨_, _, rfl, by simp⟩
  | _ => simp [T.kids] at h
def ndT : Path → T → Option T
  | [], t => some t
  | (i, o) :: p, t => match t.kids with
    | some rows => (match get2 rows i o with | some c => ndT p c | none => none)
    | none => none
def mdT : Path → T → T → T
  | [], n, _ => n
  | (i, o) :: p, n, .sl fz sz rows => .sl fz sz (set2 rows i o (mdT p n ((get2 rows i o).getD .bad)))
  | _, _, t => t

section
variable {g : Ghost} {w : World}

theorem TR.zip {r o : Nat} : ∀ (p q : Path) (t t1 : T) (v : Value), TR g w r o q t v → ndT p t = some t1 → ∃ v1, TR g w r o (q ++ p) t1 v1 ∧
    ∀ (g' : Ghost) (w' : World) (M : Nat → Nat → Prop) (n : T), Step M w w' → (∀ b k, b < w.heap.size → g b k = none → ¬ M b k ∧ g' b k = none) →
      (∀ b k s, b < w.heap.size → s ≠ [] → g b k = some (r, o, q ++ s) → (∀ s', s' ≠ [] → s ≠ p ++ s') → ¬ M b k ∧ g' b k = some (r, o, q ++ s)) →
      TR g' w' r o (q ++ p) n v1 → TR g' w' r o q (mdT p n t) v := by
  intro p
  induction p with
  | nil =>
    intro q t t1 v h hn
    simp only [ndT, Option.some.injEq] at hn; subst hn
    refine ⟨v, by simpa using h, fun g' w' M n _ _ _ h => ?_⟩
    simpa [mdT] using h
  | cons x p ih =>
    obtain ⟨i, o1⟩ := x
    intro q t t1 v h hn
    simp only [ndT] at hn
    cases hk : t.kids with
    | none => rw [hk] at hn; cases hn
    | some rows =>
        obtain ⟨md, sz, rfl, hmd⟩ := T.kids_some hk
        rw [hk] at hn
        simp only at hn
        cases hc0 : get2 rows i o1 with
        | none => rw [hc0] at hn; cases hn
        | some c =>
          rw [hc0] at hn
          simp only at hn
          cases h with
          | fro => exact absurd rfl hmd
          | nil => simp [get2] at hc0
          | own _ _ _ b off cap _ arr e _ hb hl hs hle h0 hnn hlab hc =>
            have hbd := bnd_ge (md := md) hle
            obtain ⟨v1, k1, k2⟩ := ih (q ++ [(i, o1)]) c t1 _ (hc i o1 c hc0) hn
            refine ⟨v1, by simpa using k1, fun g' w' M n hst hF hO hnew => ?_⟩
            obtain ⟨arr', a1, a2, a3⟩ := hst.cells hb
            have hlt := lt_of_cells hb
            have hO1 : ∀ i' o', i' < bnd md cap rows.length → o' < sz → ¬ M b (off + i' * sz + o') ∧ g' b (off + i' * sz + o') = some (r, o, q ++ [(i', o')]) := fun i' o' hi' ho' =>
              hO _ _ _ hlt (by simp) (hlab i' o' hi' ho') fun s' hs' e => by
                have h1 := congrArg List.length e
                simp only [List.length_cons, List.length_nil, List.length_append] at h1
                have h2 : 0 < s'.length := List.length_pos_iff.2 hs'
                omega
            have hv := TR.own (g := g') (w := w') (r := r) (o := o) q md (set2 rows i o1 (mdT p n c)) b off cap sz arr' e hmd a1 (set2_rows hl _ _ _) (by rw [set2_len, a2]; exact hs) (by rw [set2_len]; exact hle) h0 (by rw [set2_len]; exact hnn)
              (fun i' o' hi' ho' => (hO1 i' o' (by rw [set2_len] at hi'; exact hi') ho').2) (fun i' o' c' hgc => by
                rcases get2_set2 hgc with ⟨rfl, rfl, rfl⟩ | ⟨hne, hg2⟩
                · obtain ⟨hi', ho'⟩ := get2_lt hc0 hl
                  rw [getD_of_getElem? (a3 _ (hO1 i' o' (by omega) ho').1)]
                  refine k2 g' w' M n hst hF (fun b' k s hb' hs' hg hns => ?_) (by simpa using hnew)
                  rw [List.append_assoc] at hg ⊢
                  exact hO b' k _ hb' (by simp) hg fun s' hs'' e => hns s' hs'' (by simpa using e)
                · obtain ⟨hi', ho'⟩ := get2_lt hg2 hl
                  rw [getD_of_getElem? (a3 _ (hO1 i' o' (by omega) ho').1)]
                  refine (hc i' o' c' hg2).map hst hF _ fun b' k s hb' hs' hg => ?_
                  rw [List.append_assoc] at hg ⊢
                  exact hO b' k _ hb' (by simp) hg fun s' hs'' e => by
                    simp only [List.cons_append, List.nil_append, List.cons.injEq, Prod.mk.injEq] at e
                    rcases hne with hne | hne
                    · exact hne e.1.1
                    · exact hne e.1.2)
            rw [set2_len] at hv
            simpa [mdT, hc0] using hv
/-- Where the part of a tree lies. -/
theorem TR.zipAt {r o : Nat} : ∀ (p q : Path) (t t1 : T) (v : Value), TR g w r o q t v → ndT p t = some t1 → p ≠ [] → ∃ b k arr e, w.heap[b]? = some (.cells arr e (0, 0)) ∧ k < arr.size ∧ g b k = some (r, o, q ++ p) ∧
    TR g w r o (q ++ p) t1 (arr.getD k undef) := by
  intro p
  induction p with
  | nil => intro q t t1 v h hn hp; exact absurd rfl hp
  | cons x p ih =>
    obtain ⟨i, o1⟩ := x
    intro q t t1 v h hn _
    simp only [ndT] at hn
    cases hk : t.kids with
    | none => rw [hk] at hn; cases hn
    | some rows =>
        obtain ⟨md, sz, rfl, hmd⟩ := T.kids_some hk
        rw [hk] at hn
        simp only at hn
        cases hc0 : get2 rows i o1 with
        | none => rw [hc0] at hn; cases hn
        | some c =>
          rw [hc0] at hn
          simp only at hn
          cases h with
          | fro => exact absurd rfl hmd
          | nil => simp [get2] at hc0
          | own _ _ _ b off cap _ arr e _ hb hl hs hle h0 hnn hlab hc =>
            have hbd := bnd_ge (md := md) hle
            have hcc := hc i o1 c hc0
            obtain ⟨hi, ho⟩ := get2_lt hc0 hl
            cases p with
            | nil =>
              simp only [ndT, Option.some.injEq] at hn; subst hn
              have := idx_lt (n := bnd md cap rows.length) (show i < bnd md cap rows.length by omega) ho
              exact ⟨b, _, arr, e, hb, by omega, hlab i o1 (by omega) ho, hcc⟩
            | cons y p =>
              obtain ⟨b', k, arr', e', q1, q2, q3, q4⟩ := ih (q ++ [(i, o1)]) c t1 _ hcc hn (by simp)
              rw [List.append_assoc] at q3 q4
              exact ⟨b', k, arr', e', q1, q2, q3, q4⟩
end

def clT : Cl → Option T
  | .ow t => some t
  | .vw _ _ _ => none
/-- What is owned at a cell of a variable. -/
def treeAt : A → Nat → Option T
  | .val _ row, o => row[o]?.bind clT
  | .tup rs, o => rs[o / 1000]?.bind fun r => r.2[o % 1000]?.bind clT
  | .mem row, o => row[o]?.bind clT
  | .hid row, o => row[o]?
  | _, _ => none
def modAt : A → Nat → T → A
  | .val agg row, o, n => .val agg (row.set o (.ow n))
  | .tup rs, o, n => .tup (rs.modify (o / 1000) fun r => (r.1, r.2.set (o % 1000) (.ow n)))
  | .mem row, o, n => .mem (row.set o (.ow n))
  | .hid row, o, n => .hid (row.set o n)
  | a, _, _ => a

section
variable {K K' : List Key} {D : Key → Prop} {g g' : Ghost} {w w' : World} {M : Nat → Nat → Prop}

theorem clT_some {c : Cl} {t : T} (h : clT c = some t) : c = .ow t := by
  cases c <;> simp [clT] at h; subst h; rfl

theorem ValR.node {r base o : Nat} {agg : Bool} {row : List Cl} {v : Value} {t : T} (h : ValR K g w r base agg row v) (ht : row[o]? = some (.ow t)) :
    ∃ x, TR g w r (base + o) [] t x ∧ ∀ (K' : List Key) (D : Key → Prop) (g' : Ghost) (w' : World) (M : Nat → Nat → Prop) n, Chg K K' D g g' w w' M → (∀ k, D k → k = (r, base + o) ∨ k.1 ≠ r) → TR g' w' r (base + o) [] n x → ValR K' g' w' r base agg (row.set o (.ow n)) v := by
  cases agg with
  | true =>
    obtain ⟨arr, rfl, h1, h2⟩ := h
    refine ⟨_, h2 o _ ht, fun K' D g' w' M n hc hD hn => ⟨arr, rfl, by simpa using h1, fun o' c e => ?_⟩⟩
    rw [List.getElem?_set] at e
    split at e
    · rename_i e'; subst e'
      split at e
      · injection e with e; subst e; exact hn
      · cases e
    · rename_i hne
      refine (h2 o' c e).chg hc fun _ hd => ?_
      rcases hD _ hd with h | h
      · injection h with _ h; omega
      · exact h rfl
  | false =>
    match row, h, ht with
    | [c], h, ht =>
      cases o with
      | succ o => simp at ht
      | zero =>
        simp at ht; subst ht
        exact ⟨v, h, fun K' D g' w' M n hc hD hn => hn⟩

/-- One owned cell of a variable, and the variable with another tree there. -/
theorem VarR.node {tm ar : Array Value} {v o : Nat} {a : A} {t : T} (h : VarR K g w tm ar v a) (ht : treeAt a o = some t) :
    ∃ x, TR g w v o [] t x ∧ ∀ (K' : List Key) (D : Key → Prop) (g' : Ghost) (w' : World) (M : Nat → Nat → Prop) n, Chg K K' D g g' w w' M → (∀ k, D k → k = (v, o) ∨ k.1 ≠ v) → (∀ b k, g b k = some (v, o, []) → ¬ M b k) → TR g' w' v o [] n x → VarR K' g' w' tm ar v (modAt a o n) := by
  cases a with
  | any => simp [treeAt] at ht
  | pr r o => simp [treeAt] at ht
  | pe pl ks row => simp [treeAt] at ht
  | fn f ks rows => simp [treeAt] at ht
  | al m agg => simp [treeAt] at ht
  | val agg row =>
    simp only [treeAt, Option.bind_eq_some_iff] at ht
    obtain ⟨c, h1, h2⟩ := ht
    rw [clT_some h2] at h1
    obtain ⟨x, k1, k2⟩ := ValR.node h h1
    rw [Nat.zero_add] at k1 k2
    exact ⟨x, k1, fun K' D g' w' M n hc hD hM hn => k2 K' D g' w' M n hc hD hn⟩
  | tup rs =>
    simp only [treeAt, Option.bind_eq_some_iff] at ht
    obtain ⟨⟨agg, row⟩, h0, c, h1, h2⟩ := ht
    rw [clT_some h2] at h1
    obtain ⟨vs, q1, q2, q3⟩ := h
    obtain ⟨q4, q5⟩ := q3 _ _ _ h0
    obtain ⟨x, k1, k2⟩ := ValR.node q5 h1
    rw [show 1000 * (o / 1000) + o % 1000 = o by omega] at k1 k2
    refine ⟨x, k1, fun K' D g' w' M n hc hD hM hn => ⟨vs, q1, by simpa using q2, fun m agg' row' e => ?_⟩⟩
    rw [List.getElem?_modify] at e
    by_cases hm : o / 1000 = m
    · subst hm
      simp only [if_true] at e
      rw [h0] at e
      injection e with e; injection e with e1 e2
      subst e1; subst e2
      exact ⟨by simpa using q4, k2 K' D g' w' M n hc hD hn⟩
    · simp only [if_neg hm] at e
      obtain ⟨q6, q7⟩ := q3 m agg' row' (by simpa using e)
      refine ⟨q6, q7.chg hc fun o' c' e' _ hd => ?_⟩
      have := (List.getElem?_eq_some_iff.1 e').1
      rcases hD _ hd with h | h
      · injection h with _ h; omega
      · exact h rfl
  | mem row =>
    simp only [treeAt, Option.bind_eq_some_iff] at ht
    obtain ⟨c, h1, h2⟩ := ht
    rw [clT_some h2] at h1
    obtain ⟨b, k0, arr, e, q1, q2, q3⟩ := h
    refine ⟨_, (q3 o _ h1).2, fun K' D g' w' M n hc hD hM hn => ?_⟩
    obtain ⟨arr', a1, a2, a3⟩ := hc.st.cells q1
    refine ⟨b, k0, arr', e, a1, by simp; omega, fun o' c' e' => ?_⟩
    rw [List.getElem?_set] at e'
    split at e'
    · rename_i e''; subst e''
      split at e'
      · injection e' with e'; subst e'
        refine ⟨hc.root _ _ _ _ (q3 o _ h1).1, ?_⟩
        rw [getD_of_getElem? (a3 _ (hM _ _ (q3 o _ h1).1))]
        exact hn
      · cases e'
    · rename_i hne
      obtain ⟨q4, q5⟩ := q3 o' c' e'
      have hnd : ¬ D (v, o') := fun hd => by
        rcases hD _ hd with h | h
        · injection h with _ h; omega
        · exact h rfl
      have := hc.un _ _ _ q4 (.inr hnd)
      refine ⟨this.2, ?_⟩
      rw [getD_of_getElem? (a3 _ this.1)]
      exact q5.chg hc fun _ => hnd
  | hid row =>
    obtain ⟨q1, q2⟩ := h
    simp only [treeAt] at ht
    refine ⟨_, q2 o _ ht, fun K' D g' w' M n hc hD hM hn => ⟨by simpa using q1, fun o' c' e' => ?_⟩⟩
    rw [List.getElem?_set] at e'
    split at e'
    · rename_i e''; subst e''
      split at e'
      · injection e' with e'; subst e'; exact hn
      · cases e'
    · rename_i hne
      refine hc.tr (q2 o' c' e') fun _ hd => ?_
      rcases hD _ hd with h | h
      · injection h with _ h; omega
      · exact h rfl
end
theorem modAt_mem {a : A} {o : Nat} {n : T} (h : ∀ row, a ≠ .mem row) : ∀ row, modAt a o n ≠ .mem row := by
  cases a <;> simp_all [modAt]
theorem ownAt_modAt {a : A} {o : Nat} {t n : T} (ht : treeAt a o = some t) {o' : Nat} (hne : o' ≠ o) : ownAt (modAt a o n) o' = ownAt a o' := by
  cases a with
  | val agg row => simp [modAt, ownAt, List.getElem?_set, Ne.symm hne]
  | tup rs =>
    simp only [modAt, ownAt, List.getElem?_modify]
    by_cases hm : o / 1000 = o' / 1000
    · simp only [if_pos hm]
      cases hr : rs[o' / 1000]? with
      | none => rfl
      | some r =>
        have : o % 1000 ≠ o' % 1000 := by omega
        simp [List.getElem?_set, this]
    · simp [if_neg hm]
  | mem row => simp [modAt, ownAt]
  | hid row => simp [modAt, ownAt, List.getElem?_set, Ne.symm hne]
  | _ => rfl
theorem hasL_modAt {a : A} {o : Nat} {t n : T} (ht : treeAt a o = some t) {o' : Nat} {q : Path} (h : hasL a o' q = true) (hq : o' = o → q ≠ [] → ownC (.ow n) = true) : hasL (modAt a o n) o' q = true := by
  cases q with
  | nil => cases a <;> simp_all [hasL, modAt]
  | cons x q =>
    by_cases ho : o' = o
    · subst ho
      have hn := hq rfl (by simp)
      cases a with
      | val agg row =>
        simp only [treeAt, Option.bind_eq_some_iff] at ht
        obtain ⟨c, h1, _⟩ := ht
        have := (List.getElem?_eq_some_iff.1 h1).1
        simp [hasL, ownAt, modAt, List.getElem?_set, this, hn]
      | tup rs =>
        simp only [treeAt, Option.bind_eq_some_iff] at ht
        obtain ⟨r, h0, c, h1, _⟩ := ht
        have := (List.getElem?_eq_some_iff.1 h1).1
        simp [hasL, ownAt, modAt, List.getElem?_modify, h0, List.getElem?_set, this, hn]
      | mem row => simpa [hasL, ownAt, modAt] using h
      | hid row =>
        simp only [treeAt] at ht
        have := (List.getElem?_eq_some_iff.1 ht).1
        simp [hasL, ownAt, modAt, List.getElem?_set, this, hn]
      | _ => simp [treeAt] at ht
    · have : hasL (modAt a o n) o' (x :: q) = ownAt (modAt a o n) o' := by cases a <;> rfl
      rw [this, ownAt_modAt ht ho]
      have : hasL a o' (x :: q) = ownAt a o' := by cases a <;> rfl
      rw [← this]; exact h
end Go.Eng

namespace Go.Eng

noncomputable def gren (ρ : Lab → Option Lab) (g : Ghost) : Ghost := fun b k => (g b k).bind ρ
theorem gren_none {ρ : Lab → Option Lab} {g : Ghost} {b k : Nat} (h : g b k = none) : gren ρ g b k = none := by simp [gren, h]
theorem gren_some {ρ : Lab → Option Lab} {g : Ghost} {b k : Nat} {l : Lab} (h : gren ρ g b k = some l) : ∃ l', g b k = some l' ∧ ρ l' = some l := by
  simpa [gren, Option.bind_eq_some_iff] using h
theorem gren_of {ρ : Lab → Option Lab} {g : Ghost} {b k : Nat} {l m : Lab} (h : g b k = some l) (hρ : ρ l = some m) : gren ρ g b k = some m := by simp [gren, h, hρ]

variable {N : Nat} {w0 : World} {g0 : Ghost} {ar tm : Array Value} {S : St} {w : World} {g : Ghost}

structure Ren (g : Ghost) (ρ : Lab → Option Lab) (D : Key → Prop) : Prop where
  inj : ∀ b k b' k' l l' m, g b k = some l → g b' k' = some l' → ρ l = some m → ρ l' = some m → l = l'
  sp : ∀ l m, ρ l = some m → Sp m → l = m
  root : ∀ r o, ρ (r, o, []) = some (r, o, [])
  un : ∀ b k l, g b k = some l → (Sp l ∨ ¬ D (l.1, l.2.1)) → ρ l = some l

theorem Ren.chg {ρ : Lab → Option Lab} {D : Key → Prop} (hρ : Ren g ρ D) {K K' : List Key} (hK : ∀ k ∈ K, k ∈ K') (hDK : ∀ k, D k → k ∈ K' ∨ 19000 ≤ k.1) (hold : ∀ b k l, g b k = some l → b < w.heap.size) :
    Chg K K' D g (gren ρ g) w w (fun _ _ => False) where
  st := Step.refl _ _
  K := hK
  DK := hDK
  old := hold
  none := fun b k _ h => ⟨fun h => h, gren_none h⟩
  un := fun b k l h hu => ⟨fun h => h, gren_of h (hρ.un b k l h hu)⟩
  root := fun b k r o h => gren_of h (hρ.root r o)

theorem Rel.relab (h : Rel N w0 g0 ar S tm w g) {ρ : Lab → Option Lab} {D : Key → Prop} (hρ : Ren g ρ D) {S' : St} (hK : ∀ k ∈ S.k, k ∈ S'.k) (hDK : ∀ k, D k → k ∈ S'.k ∨ 19000 ≤ k.1)
    (hlab : ∀ b k l, g b k = some l → ∀ m, ρ l = some m → Sp m ∨ 19000 ≤ m.1 ∨ hasL (S'.get m.1) m.2.1 m.2.2 = true) (hhi : ∀ v, 19000 ≤ v → S'.get v = .any) (hslot : ∀ v row, v < 10000 → S'.get v ≠ .mem row)
    (hv : ∀ v, (S'.get v = S.get v ∧ ∀ o, ownAt (S.get v) o = true → ¬ D (v, o)) ∨ VarR S'.k (gren ρ g) w tm ar v (S'.get v)) : Rel N w0 g0 ar S' tm w (gren ρ g) :=
  h.chg (hρ.chg hK hDK h.old) h.size (fun _ _ _ hm => hm.elim)
    (fun b k l hs hl => by
      obtain ⟨l', h1, h2⟩ := gren_some hl
      rw [h1, hρ.sp l' l h2 hs])
    (fun b k b' k' l h1 h2 => by
      obtain ⟨l1, a1, a2⟩ := gren_some h1
      obtain ⟨l2, b1, b2⟩ := gren_some h2
      rw [hρ.inj _ _ _ _ l1 l2 l a1 b1 a2 b2] at a1
      exact h.inj _ _ _ _ _ a1 b1)
    (fun b k l hl => by obtain ⟨l', h1, _⟩ := gren_some hl; exact h.old b k l' h1)
    (fun b k l hl => by obtain ⟨l', h1, h2⟩ := gren_some hl; exact hlab b k l' h1 l h2)
    hhi hslot
    (fun v => by
      rcases hv v with ⟨h1, h2⟩ | hv
      · exact .inl ⟨rfl, h1, h2⟩
      · exact .inr hv)

/-- What is left of a path behind a beginning. -/
def strip : Path → Path → Option Path
  | [], s => some s
  | _ :: _, [] => none
  | x :: p, y :: s => if x = y then strip p s else none
theorem strip_iff {p s q : Path} : strip p s = some q ↔ s = p ++ q := by
  induction p generalizing s with
  | nil => simp [strip]
  | cons x p ih =>
    cases s with
    | nil => simp [strip]
    | cons y s =>
      simp only [strip]
      split
      · rename_i e; subst e; simp [ih]
      · rename_i e; simp [Ne.symm e]
  

/-- The labels of a slice's memory (from row lo on) go elsewhere. -/
def keepL (dst l : Lab) : Option Lab :=
  if l.1 = dst.1 ∧ l.2.1 = dst.2.1 then match strip dst.2.2 l.2.2 with | some (_ :: _) => none | _ => some l else some l
def mvP (src : Lab) (lo : Nat) (dst l : Lab) : Option Lab :=
  if l.1 = src.1 ∧ l.2.1 = src.2.1 then match strip src.2.2 l.2.2 with
    | some ((i, j) :: q) => if lo ≤ i then some (dst.1, dst.2.1, dst.2.2 ++ (i - lo, j) :: q) else none
    | _ => keepL dst l
  else keepL dst l

theorem keepL_some {dst l m : Lab} (h : keepL dst l = some m) : m = l ∧ ∀ x q, l ≠ (dst.1, dst.2.1, dst.2.2 ++ x :: q) := by
  unfold keepL at h
  split at h
  · rename_i hc
    split at h
    · cases h
    · rename_i hs
      injection h with h
      refine ⟨h.symm, fun x q e => ?_⟩
      have : strip dst.2.2 l.2.2 = some (x :: q) := strip_iff.2 (by rw [e])
      exact hs _ _ this
  · rename_i hc
    injection h with h
    refine ⟨h.symm, fun x q e => hc ?_⟩
    rw [e]; exact ⟨rfl, rfl⟩
theorem keepL_fix {dst l : Lab} (h : ∀ x q, l ≠ (dst.1, dst.2.1, dst.2.2 ++ x :: q)) : keepL dst l = some l := by
  unfold keepL
  split
  · rename_i hc
    split
    · rename_i x q hs
      exact absurd (by obtain ⟨a, b, c⟩ := l; simp only at hc hs ⊢; rw [strip_iff.1 hs, hc.1, hc.2]) (h x q)
    · rfl
  · rfl
theorem mvP_some {src dst l m : Lab} {lo : Nat} (h : mvP src lo dst l = some m) :
    (∃ i j q, l = (src.1, src.2.1, src.2.2 ++ (i, j) :: q) ∧ lo ≤ i ∧ m = (dst.1, dst.2.1, dst.2.2 ++ (i - lo, j) :: q)) ∨
    (m = l ∧ (∀ x q, l ≠ (dst.1, dst.2.1, dst.2.2 ++ x :: q)) ∧ ∀ x q, l ≠ (src.1, src.2.1, src.2.2 ++ x :: q)) := by
  unfold mvP at h
  split at h
  · rename_i hc
    split at h
    · rename_i i j q hs
      split at h
      · injection h with h
        exact .inl ⟨i, j, q, by obtain ⟨a, b, c⟩ := l; simp only at hc hs ⊢; rw [strip_iff.1 hs, hc.1, hc.2], by assumption, h.symm⟩
      · cases h
    · rename_i hs
      obtain ⟨h1, h2⟩ := keepL_some h
      exact .inr ⟨h1, h2, fun x q e => hs _ _ _ (strip_iff.2 (by rw [e]) : strip src.2.2 l.2.2 = some ((x.1, x.2) :: q))⟩
  · rename_i hc
    obtain ⟨h1, h2⟩ := keepL_some h
    exact .inr ⟨h1, h2, fun x q e => hc (by rw [e]; exact ⟨rfl, rfl⟩)⟩
theorem mvP_mv {src dst : Lab} {lo i j : Nat} {q : Path} (h : lo ≤ i) : mvP src lo dst (src.1, src.2.1, src.2.2 ++ (i, j) :: q) = some (dst.1, dst.2.1, dst.2.2 ++ (i - lo, j) :: q) := by
  unfold mvP
  have : strip src.2.2 (src.2.2 ++ (i, j) :: q) = some ((i, j) :: q) := strip_iff.2 rfl
  simp [this, h]
theorem mvP_fix {src dst l : Lab} {lo : Nat} (h1 : ∀ x q, l ≠ (src.1, src.2.1, src.2.2 ++ x :: q)) (h2 : ∀ x q, l ≠ (dst.1, dst.2.1, dst.2.2 ++ x :: q)) : mvP src lo dst l = some l := by
  unfold mvP
  split
  · rename_i hc
    split
    · rename_i i j q hs
      exact absurd (by obtain ⟨a, b, c⟩ := l; simp only at hc hs ⊢; rw [strip_iff.1 hs, hc.1, hc.2]) (h1 (i, j) q)
    · exact keepL_fix h2
  · exact keepL_fix h2
theorem mvP_ren {src dst : Lab} {lo : Nat} (hs : ¬ Sp src) (hd : ¬ Sp dst) : Ren g (mvP src lo dst) (fun k => k = (src.1, src.2.1) ∨ k = (dst.1, dst.2.1)) where
  inj := fun _ _ _ _ l l' m _ _ h h' => by
    rcases mvP_some h with ⟨i, j, q, rfl, hi, rfl⟩ | ⟨rfl, h1, h2⟩ <;> rcases mvP_some h' with ⟨i', j', q', rfl, hi', e⟩ | ⟨e, h1', h2'⟩
    · simp only [Prod.mk.injEq, true_and, List.append_cancel_left_eq, List.cons.injEq] at e
      obtain ⟨⟨e1, rfl⟩, rfl⟩ := e
      rw [show i = i' by omega]
    · subst e; exact absurd rfl (h1' _ _)
    · exact absurd e (h1 _ _)
    · exact e
  sp := fun l m h hm => by
    rcases mvP_some h with ⟨i, j, q, rfl, hi, rfl⟩ | ⟨rfl, h1, h2⟩
    · exact absurd hm hd
    · rfl
  root := fun r o => mvP_fix (fun x q e => by simp at e) (fun x q e => by simp at e)
  un := fun _ _ l _ h => mvP_fix (fun x q e => by
      subst e
      rcases h with h | h
      · exact hs h
      · exact h (.inl rfl)) (fun x q e => by
      subst e
      rcases h with h | h
      · exact hd h
      · exact h (.inr rfl))

/-- Other trees keep their places. -/
theorem TR.ren {r o : Nat} {p : Path} {t : T} {v : Value} (h : TR g w r o p t v) {ρ : Lab → Option Lab} (hρ : ∀ q, q ≠ [] → ρ (r, o, p ++ q) = some (r, o, p ++ q)) : TR (gren ρ g) w r o p t v :=
  h.map (Step.refl (fun _ _ => False) w) (fun b k _ h => ⟨fun h => h, gren_none h⟩) p fun b k q _ hq hg => ⟨fun h => h, gren_of hg (hρ q hq)⟩
theorem ShR.ren {L : Option Lab → Prop} {t : T} {v : Value} (h : ShR L g w t v) {ρ : Lab → Option Lab} (hL : ∀ l, L l → L (l.bind ρ)) : ShR L (gren ρ g) w t v :=
  h.map (Step.refl (fun _ _ => False) w) fun b k _ hl => ⟨fun h => h, hL _ hl⟩

theorem get2_cut {rows : List Row} {l n i o : Nat} {c : T} (h : get2 ((rows.drop l).take n) i o = some c) : get2 rows (l + i) o = some c ∧ i < n := by
  unfold get2 at h ⊢
  rw [List.getElem?_take] at h
  split at h
  · rw [List.getElem?_drop] at h; exact ⟨h, by assumption⟩
  · simp at h

/-- A slice (or a part of one) is taken out of its place. -/
theorem Rel.take (h : Rel N w0 g0 ar S tm w g) {r o lo idx : Nat} {p : Path} {t : T} {sz : Nat} {rows : List Row} (hr : r < 19000) (ht : treeAt (S.get r) o = some t) (hn : ndT p t = some (.sl .ow sz rows)) :
    let ρ := mvP (r, o, p) lo (19000, idx, [])
    Rel N w0 g0 ar ((S.put r (modAt (S.get r) o (mdT p .bad t))).kl [(r, o)]) tm w (gren ρ g) ∧
    (∀ n rows' v, HdR (.sl .ow sz rows') v → PlR g w (r, o, p) lo (.sl .ow sz rows') v → rows'.length = n → lo + n ≤ rows.length → TR (gren ρ g) w 19000 idx [] (.sl .ow sz ((rows.drop lo).take n)) v) ∧
    Chg S.k ((r, o) :: S.k) (fun k => k = (r, o) ∨ k = (19000, idx)) g (gren ρ g) w w (fun _ _ => False) := by
  intro ρ
  have hsrc : ¬ Sp (r, o, p) := by rintro (h | h) <;> simp only at h <;> omega
  have hdst : ¬ Sp (19000, idx, ([] : Path)) := by rintro (h | h) <;> simp only at h <;> omega
  have hρ : Ren g ρ _ := mvP_ren hsrc hdst
  have hDK : ∀ k : Key, (k = (r, o) ∨ k = (19000, idx)) → k ∈ (r, o) :: S.k ∨ 19000 ≤ k.1 := by
    rintro k (rfl | rfl)
    · exact .inl (by simp)
    · exact .inr (Nat.le_refl _)
  have hchg := hρ.chg (g := g) (w := w) (K := S.k) (K' := (r, o) :: S.k) (fun k hk => by simp [hk]) hDK h.old
  obtain ⟨x, k1, k2⟩ := VarR.node (h.vars r) ht
  obtain ⟨v1, z1, z2⟩ := TR.zip p [] t _ x k1 hn
  rw [List.nil_append] at z1
  have hnew : TR (gren ρ g) w r o [] (mdT p .bad t) x := z2 (gren ρ g) w (fun _ _ => False) .bad (Step.refl _ _) (fun b k _ h => ⟨fun h => h, gren_none h⟩)
    (fun b k s _ hs hg hns => ⟨fun h => h, gren_of hg (mvP_fix (fun y q e => by
        simp only [List.nil_append, Prod.mk.injEq, true_and] at e
        exact hns _ (by simp) e) (fun y q e => by simp only [Prod.mk.injEq] at e; omega))⟩)
    (.bad _ _ z1.one)
  refine ⟨?_, fun n rows' v hd hp hlen hle => ?_, hchg⟩
  · refine h.relab (S' := (S.put r (modAt (S.get r) o (mdT p .bad t))).kl [(r, o)]) hρ (fun k hk => by simp [St.k_kl, St.k_put, hk]) hDK (fun b k l hg m hm => ?_) ?_ ?_ (fun v => ?_)
    · rcases mvP_some hm with ⟨i, j, q, rfl, hi, rfl⟩ | ⟨rfl, h1, h2⟩
      · exact .inr (.inl (Nat.le_refl _))
      · rcases h.lab b k m hg with h3 | h3 | h3
        · exact .inl h3
        · exact .inr (.inl h3)
        · refine .inr (.inr ?_)
          rw [St.get_kl, St.get_put]
          split
          · rename_i e
            rw [e] at h3
            refine hasL_modAt ht h3 fun ho hq => ?_
            cases p with
            | nil =>
              cases hm2 : m.2.2 with
              | nil => exact absurd hm2 hq
              | cons y q => exact absurd (by obtain ⟨a, b, c⟩ := m; simp only at e ho hm2 ⊢; rw [e, ho, hm2]; rfl) (h2 y q)
            | cons y p =>
              obtain ⟨i1, o1⟩ := y
              cases hk : t.kids with
              | none => simp [ndT, hk] at hn
              | some rows' =>
                obtain ⟨md, sz', rfl, hmd⟩ := T.kids_some hk
                cases md <;> simp [mdT, ownC] at hmd ⊢
          · exact h3
    · intro v hv
      rw [St.get_kl, St.get_put, if_neg (by omega)]; exact h.hi v hv
    · intro v row hv
      rw [St.get_kl, St.get_put]
      split
      · rename_i e; subst e; exact modAt_mem (h.slot v · hv) row
      · exact h.slot v row hv
    · rw [St.get_kl, St.get_put]
      by_cases hv : v = r
      · subst hv
        rw [if_pos rfl]
        exact .inr (k2 _ _ _ _ _ _ hchg (by rintro k (rfl | rfl); exact .inl rfl; exact .inr (by simp only; omega)) (fun _ _ _ h => h) hnew)
      · rw [if_neg hv]
        refine .inl ⟨rfl, fun o' ho' hd => ?_⟩
        rcases hd with hd | hd
        · injection hd with hd _; exact hv hd
        · injection hd with hd _
          rw [h.hi v (by omega)] at ho'; cases ho'
  · obtain ⟨a, c, rfl, hc, hn2, _⟩ := hd
    subst hlen
    have htl : ((rows.drop lo).take rows'.length).length = rows'.length := by simp; omega
    rcases Nat.eq_zero_or_pos c with hc0 | hc0
    · subst hc0
      have : rows'.length = 0 := by omega
      rw [this, List.take_zero]
      exact .nil _ _ _ _ _ (by simp) (fun _ => rfl)
    · obtain ⟨b, off, arr, e, rfl, h0, hb, hsz, hlab⟩ := hp a _ c rfl hc0
      simp only [bnd_ow] at hsz hlab
      have hl' : ∀ r' ∈ (rows.drop lo).take rows'.length, r'.length = sz := fun r' hr' => by
        have hm := List.mem_of_mem_drop (List.mem_of_mem_take hr')
        cases z1 with
        | nil => simp at hm
        | own _ _ _ _ _ _ _ _ _ _ _ hl => exact hl r' hm
      have hv := TR.own (g := gren ρ g) (w := w) (r := 19000) (o := idx) [] .ow ((rows.drop lo).take rows'.length) b off c sz arr e (by simp) hb hl' hsz (by omega) h0 (by omega)
        (fun i o' hi ho => by
          have := hlab i o' hi ho
          have h9 := gren_of this (mvP_mv (src := (r, o, p)) (dst := (19000, idx, [])) (lo := lo) (q := []) (show lo ≤ lo + i by omega))
          rwa [show lo + i - lo = i by omega] at h9)
        (fun i o' c' hgc => by
          obtain ⟨q1, q2⟩ := get2_cut hgc
          cases z1 with
          | nil => simp [get2] at q1
          | own _ _ _ b0 off0 cap0 _ arr0 e0 _ hb0 hl0 hs0 hle0 h00 hn0 hlab0 hc0 =>
            rw [bnd_ow] at hlab0
            obtain ⟨q3, q4⟩ := get2_lt q1 hl0
            have l1 := hlab i o' (by omega) q4
            have l2 := hlab0 (lo + i) o' (by omega) q4
            obtain ⟨e1, e2⟩ := h.inj _ _ _ _ _ l1 l2
            subst e1
            rw [hb] at hb0; injection hb0 with hb0; injection hb0 with hb0 _ _; subst hb0
            have := hc0 (lo + i) o' c' q1
            rw [e2]
            refine this.map (Step.refl (fun _ _ => False) w) (fun b k _ h => ⟨fun h => h, gren_none h⟩) _ fun b k q _ hq hg => ⟨fun h => h, ?_⟩
            rw [List.append_assoc] at hg
            have := gren_of hg (mvP_mv (src := (r, o, p)) (dst := (19000, idx, [])) (lo := lo) (i := lo + i) (j := o') (q := q) (by omega))
            rwa [show lo + i - lo = i by omega] at this)
      rw [htl] at hv
      exact hv
end Go.Eng

namespace Go.Eng

/-- What owns nothing may lie anywhere. -/
theorem TR.elsewhere {g g' : Ghost} {w w' : World} {r o r' o' : Nat} {p p' : Path} {c : T} {v : Value} (h : TR g w r o p c v) {M : Nat → Nat → Prop} (hs : Step M w w')
    (hF : ∀ b k, b < w.heap.size → g b k = none → ¬ M b k ∧ g' b k = none) (hp : ownC (.ow c) = false) : TR g' w' r' o' p' c v := by
  cases c with
  | lit x => cases h with | lit _ _ h1 => exact .lit _ _ h1
  | bad => cases h with | bad _ _ h1 => exact .bad _ _ h1
  | sl fz sz rows =>
    cases fz with
    | fro => cases h with
      | fro _ _ _ _ h => exact .fro _ _ _ _ (h.map hs hF)
      | nil _ _ _ _ _ hm => exact absurd rfl hm
      | own _ _ _ _ _ _ _ _ _ hm => exact absurd rfl hm
    | ow => simp [ownC] at hp
    | el => simp [ownC] at hp
theorem TR.elsewhere0 {g : Ghost} {w : World} {r o r' o' : Nat} {p p' : Path} {c : T} {v : Value} (h : TR g w r o p c v) (hp : ownC (.ow c) = false) : TR g w r' o' p' c v :=
  h.elsewhere (Step.refl (fun _ _ => False) w) (fun _ _ _ h => ⟨fun h => h, h⟩) hp

theorem TR.frozen {g : Ghost} {w : World} {r o : Nat} {p : Path} {sz : Nat} {rows : List Row} {v : Value} (h : TR g w r o p (.sl .fro sz rows) v) : ShR LF g w (.sl .fro sz rows) v := by
  cases h with
  | fro _ _ _ _ h => exact h
  | nil _ _ _ _ _ hm => exact absurd rfl hm
  | own _ _ _ _ _ _ _ _ _ hm => exact absurd rfl hm

/-- A constant of one cell. -/
inductive Kc where
  | i (k : IntKind) (n : Int)
  | b (x : Bool)
  | s (x : ByteArray)
  | nl (sz : Nat)
  | np
  | nf
  | nv
def Kc.v : Kc → Value
  | .i k n => .int k n
  | .b x => .bool x
  | .s x => .string x
  | .nl _ => .slice none 0 0
  | .np => .pointer none
  | .nf => .nilFunc
  | .nv => .slice none 0 0
def Kc.t : Kc → T
  | .nl sz => .sl .ow sz []
  | x => .lit x.v
inductive Opd where
  | t (n : Nat)
  | k (c : Kc)
  | z (cs : List Kc)
def Kc.is : Kc → Value → Bool
  | .i k n, .int j m => k == j && n == m
  | .b x, .bool y => x == y
  | .s x, .string y => decide (x.data = y.data)
  | .nl _, .slice none 0 0 => true
  | .np, .pointer none => true
  | .nf, .nilFunc => true
  | .nv, .slice none 0 0 => true
  | _, _ => false
theorem Kc.is_eq {x : Kc} {v : Value} (h : x.is v = true) : v = x.v := by
  unfold Kc.is at h
  split at h <;> simp_all [Kc.v]
  exact (ByteArray.ext h).symm
def Kc.areB : List Kc → List Value → Bool
  | [], [] => true
  | x :: l, v :: m => x.is v && Kc.areB l m
  | _, _ => false
theorem Kc.are_eq {l : List Kc} {m : List Value} (h : Kc.areB l m = true) : m = l.map Kc.v := by
  induction l generalizing m with
  | nil => cases m <;> simp_all [Kc.areB]
  | cons x l ih =>
    cases m with
    | nil => simp [Kc.areB] at h
    | cons v m => simp [Kc.areB] at h; rw [Kc.is_eq h.1, ih h.2]; rfl
def opdB : Operand → Opd → Bool
  | .tmp t, .t n => t == n
  | .const (.agg cs), .z l => Kc.areB l cs.toList
  | .const v, .k c => c.is v
  | _, _ => false
def Opd.ev (f : Nat → A) : Opd → A
  | .t n => f n
  | .k c => .val false [.ow c.t]
  | .z cs => .val true (cs.map fun c => .ow c.t)
def Opd.val (tm : Array Value) : Opd → Value
  | .t n => tm.getD n undef
  | .k c => c.v
  | .z cs => .agg (cs.map Kc.v).toArray
theorem opdB_eval {x : Operand} {y : Opd} (h : opdB x y = true) (a : Act) : a.eval x = y.val a.tmps := by
  unfold opdB at h
  split at h
  · simp at h; subst h; rfl
  · rename_i cs l
    have := Kc.are_eq h
    show Value.agg cs = .agg _
    rw [← this]
  · rw [Kc.is_eq h]; rfl
  · cases h

theorem Kc.rel (g : Ghost) (w : World) (r o : Nat) (p : Path) (c : Kc) : TR g w r o p c.t c.v := by
  cases c <;> first | exact .nil _ _ _ _ _ (by simp) (fun _ => rfl) | exact .lit _ _ rfl

/-- The cells of a value that a row describes. -/
def cellsV (agg : Bool) (v : Value) : Array Value := match agg, v with
  | true, .agg arr => arr
  | _, v => #[v]
theorem ValR.cells {K : List Key} {g : Ghost} {w : World} {r base : Nat} {agg : Bool} {row : List Cl} {v : Value} (h : ValR K g w r base agg row v) :
    (cellsV agg v).size = row.length ∧ ∀ o c, row[o]? = some c → ClR K g w r (base + o) c ((cellsV agg v).getD o undef) := by
  cases agg with
  | true =>
    obtain ⟨arr, rfl, h1, h2⟩ := h
    exact ⟨h1, h2⟩
  | false =>
    match row, h with
    | [c], h =>
      refine ⟨(by cases v <;> rfl), fun o c' e => ?_⟩
      cases o with
      | zero =>
        simp at e; subst e
        have : (cellsV false v).getD 0 undef = v := by cases v <;> rfl
        rw [this]; exact h
      | succ o => simp at e
theorem ValR.of_cells {K : List Key} {g : Ghost} {w : World} {r base : Nat} {agg : Bool} {row : List Cl} {v : Value} (hs : (agg = true ∧ ∃ arr, v = .agg arr) ∨ (agg = false ∧ row.length = 1))
    (h1 : (cellsV agg v).size = row.length) (h2 : ∀ o c, row[o]? = some c → ClR K g w r (base + o) c ((cellsV agg v).getD o undef)) : ValR K g w r base agg row v := by
  rcases hs with ⟨rfl, arr, rfl⟩ | ⟨rfl, hl⟩
  · exact ⟨arr, rfl, h1, h2⟩
  · match row, hl, h2 with
    | [c], _, h2 =>
      have := h2 0 c rfl
      have e : (cellsV false v).getD 0 undef = v := by cases v <;> rfl
      rw [e] at this
      exact this
theorem ValR.shape {K : List Key} {g : Ghost} {w : World} {r base : Nat} {agg : Bool} {row : List Cl} {v : Value} (h : ValR K g w r base agg row v) : (agg = true ∧ ∃ arr, v = .agg arr) ∨ (agg = false ∧ row.length = 1) := by
  cases agg with
  | true => obtain ⟨arr, rfl, _⟩ := h; exact .inl ⟨rfl, arr, rfl⟩
  | false =>
    match row, h with
    | [c], h => exact .inr ⟨rfl, rfl⟩

def keyB (K ks : List Key) : Bool := ks.all fun k => !(K.elem k) && decide (k.1 < 19000)
theorem keyB_vd {K ks : List Key} (h : keyB K ks = true) : Vd K ks := fun k hk => by
  simp only [keyB, List.all_eq_true, Bool.and_eq_true, decide_eq_true_eq, Bool.not_eq_true'] at h
  have := h k hk
  exact ⟨fun hm => (by rw [List.elem_eq_true_of_mem hm] at this; cases this.1), this.2⟩

/-- The state where the slice at a place has been taken out. -/
def St.cut (S : St) (l : Lab) (t : T) : St := (S.put l.1 (modAt (S.get l.1) l.2.1 (mdT l.2.2 .bad t))).kl [(l.1, l.2.1)]
/-- One cell is taken (or, as md tells, a view is kept). -/
def rsvC (S : St) (md : Option Lab → List Key → Bool) (x o : Nat) : Cl → Option (Cl × St)
  | .ow (.sl .ow sz rows) => match treeAt (S.get x) o with
    | some (.sl .ow sz' rows') => if sz' = sz ∧ rows'.length = rows.length then some (.ow (.sl .ow sz rows'), S.cut (x, o, []) (.sl .ow sz' rows')) else none
    | _ => none
  | .ow (.sl .el _ _) => none
  | .ow t => some (.ow t, S)
  | .vw pl ks t => if md (pl.map (·.1)) ks then some (.vw pl ks t, S) else match pl, t with
    | some (l, lo), .sl .ow sz rows => if keyB S.k ks && !(l.1 == x) && decide (l.1 < 19000) then (match treeAt (S.get l.1) l.2.1 with
      | some t0 => (match ndT l.2.2 t0 with
        | some (.sl .ow sz' rows') => if sz' = sz ∧ lo + rows.length ≤ rows'.length then some (.ow (.sl .ow sz ((rows'.drop lo).take rows.length)), S.cut l t0) else none
        | _ => none)
      | none => none) else none
    | _, .lit v => some (.ow (.lit v), S)
    | _, _ => none
def rsvRow (S : St) (md : Option Lab → List Key → Bool) (x : Nat) : Nat → List Cl → Option (List Cl × St)
  | _, [] => some ([], S)
  | o, c :: l => match rsvC S md x o c with
    | some (c', S1) => (rsvRow S1 md x (o + 1) l).map fun r => (c' :: r.1, r.2)
    | none => none
def rsv (S : St) (md : Option Lab → List Key → Bool) : Opd → Option (Bool × List Cl × St)
  | .k c => some (false, [.ow c.t], S)
  | .z cs => some (true, cs.map fun c => .ow c.t, S)
  | .t s => match S.get s with
    | .val agg row => if s < 19000 then (rsvRow S md s 0 row).map fun r => (agg, r.1, r.2) else none
    | _ => none

variable {N : Nat} {w0 : World} {g0 : Ghost} {ar tm : Array Value} {S : St} {w : World} {g g' : Ghost} {md : Option Lab → List Key → Bool}

/-- What stays as it was while something is taken: staged cells but for those of some numbers. -/
structure Kept (S S' : St) (g g' : Ghost) (w : World) (bad : Nat → Prop) : Prop where
  st : ∀ idx c v, ¬ bad idx → ClR S.k g w 19000 idx c v → ClR S'.k g' w 19000 idx c v
  any : ∀ v, S.get v = .any → S'.get v = .any
  k : ∀ k ∈ S.k, k ∈ S'.k
  none : ∀ b k, b < w.heap.size → g b k = none → g' b k = none
  root : ∀ b k r o, g b k = some (r, o, []) → g' b k = some (r, o, [])
  sh : ∀ ks t v, Vd S'.k ks → ShR (LP ks) g w t v → ShR (LP ks) g' w t v
  lab : ∀ b k l, g b k = some l → (l.1, l.2.1) ∉ S'.k → l.1 < 19000 → g' b k = some l

theorem Kept.refl (S : St) (g : Ghost) (w : World) (bad : Nat → Prop) : Kept S S g g w bad :=
  ⟨fun _ _ _ _ h => h, fun _ h => h, fun _ h => h, fun _ _ _ h => h, fun _ _ _ _ h => h, fun _ _ _ _ h => h, fun _ _ _ h _ _ => h⟩
theorem Kept.trans {S S1 S2 : St} {g g1 g2 : Ghost} {bad bad' : Nat → Prop} (h : Kept S S1 g g1 w bad) (h' : Kept S1 S2 g1 g2 w bad') : Kept S S2 g g2 w (fun i => bad i ∨ bad' i) :=
  ⟨fun i c v hb hc => h'.st i c v (fun hh => hb (.inr hh)) (h.st i c v (fun hh => hb (.inl hh)) hc), fun v hv => h'.any v (h.any v hv), fun k hk => h'.k k (h.k k hk), fun b k hb hn => h'.none b k hb (h.none b k hb hn),
    fun b k r o hg => h'.root b k r o (h.root b k r o hg), fun ks t v hv hs => h'.sh ks t v hv (h.sh ks t v (hv.mono h'.k) hs),
    fun b k l hg hn hl => h'.lab b k l (h.lab b k l hg (fun hm => hn (h'.k _ hm)) hl) hn hl⟩
theorem Kept.mono {S S' : St} {g g' : Ghost} {bad bad' : Nat → Prop} (h : Kept S S' g g' w bad) (hb : ∀ i, bad i → bad' i) : Kept S S' g g' w bad' :=
  ⟨fun i c v hn => h.st i c v fun hh => hn (hb i hh), h.any, h.k, h.none, h.root, h.sh, h.lab⟩
theorem modAt_any {a : A} {o : Nat} {n : T} : modAt a o n ≠ .any ∨ a = .any := by cases a <;> simp [modAt]

theorem cut_kept {l : Lab} {t t1 : T} {idx : Nat} (ht : treeAt (S.get l.1) l.2.1 = some t) (hc : Chg S.k ((l.1, l.2.1) :: S.k) (fun k => k = (l.1, l.2.1) ∨ k = (19000, idx)) g g' w w (fun _ _ => False)) (hl : l.1 < 19000) :
    Kept S (S.cut l t1) g g' w (fun i => i = idx) where
  st := fun i c v hi hcl => by
    refine ClR.chg hcl hc fun _ hd => ?_
    rcases hd with hd | hd
    · injection hd with hd _; omega
    · injection hd with _ hd; exact hi hd
  any := fun v hv => by
    show (St.put S _ _).get v = _
    rw [St.get_put]
    split
    · rename_i e; subst e; rw [hv] at ht; simp [treeAt] at ht
    · exact hv
  k := fun k hk => List.mem_cons_of_mem _ hk
  none := fun b k hb hn => (hc.none b k hb hn).2
  root := hc.root
  sh := fun ks t v hv hs => hc.sh hv hs
  lab := fun b k l hg hn hl' => (hc.un b k l hg (.inr (by
    rintro (hd | hd)
    · exact hn (by rw [hd]; exact List.mem_cons_self)
    · injection hd with hd _; omega))).2

theorem rsvC_sound {x o idx : Nat} {c c' : Cl} {v : Value} {S' : St} (h : Rel N w0 g0 ar S tm w g) (hx : x < 19000) (hcl : ClR S.k g w x o c v) (he : rsvC S md x o c = some (c', S')) :
    ∃ g', Rel N w0 g0 ar S' tm w g' ∧ ClR S'.k g' w 19000 idx c' v ∧ Kept S S' g g' w (fun i => i = idx) ∧ ∀ o' c v, o' ≠ o → ClR S.k g w x o' c v → ClR S'.k g' w x o' c v := by
  cases c with
  | ow t =>
    have hplain : ownC (.ow t) = false → c' = .ow t ∧ S' = S := by
      intro hp
      cases t with
      | sl fz sz rows =>
        cases fz with
        | fro => simp [rsvC] at he; exact ⟨he.1.symm, he.2.symm⟩
        | ow => simp [ownC] at hp
        | el => simp [ownC] at hp
      | lit v => simp [rsvC] at he; exact ⟨he.1.symm, he.2.symm⟩
      | bad => simp [rsvC] at he; exact ⟨he.1.symm, he.2.symm⟩
    cases hp : ownC (.ow t) with
    | false =>
      obtain ⟨rfl, rfl⟩ := hplain hp
      refine ⟨g, h, ?_, Kept.refl _ _ _ _, fun _ _ _ _ h => h⟩
      cases t with
      | sl fz sz rows =>
        cases fz with
        | fro => exact TR.elsewhere0 hcl hp
        | ow => simp [ownC] at hp
        | el => simp [ownC] at hp
      | lit v => cases hcl with | lit _ _ h1 => exact .lit _ _ h1
      | bad => cases hcl with | bad _ _ h1 => exact .bad _ _ h1
    | true =>
      cases t with
      | lit v => simp [ownC] at hp
      | bad => simp [ownC] at hp
      | sl fz sz rows =>
        cases fz with
        | fro => simp [ownC] at hp
        | el => simp [rsvC] at he
        | ow =>
          simp only [rsvC] at he
          split at he
          · rename_i sz' rows' ht
            split at he
            · rename_i hce
              obtain ⟨rfl, hlen⟩ := hce
              simp only [Option.some.injEq, Prod.mk.injEq] at he
              obtain ⟨rfl, rfl⟩ := he
              obtain ⟨k1, k2, k3⟩ := h.take (lo := 0) (idx := idx) hx ht (p := []) (by rfl)
              have hv := k2 rows'.length _ v (TR.hd hcl) (TR.pl hcl (by simp)) hlen.symm (by omega)
              simp only [List.drop_zero, List.take_length] at hv
              exact ⟨_, k1, hv, cut_kept (l := (x, o, [])) ht k3 hx, fun o' c v hne hc => hc.chg k3 fun _ hd => by
                rcases hd with hd | hd
                · injection hd with _ hd; exact hne hd
                · injection hd with hd _; omega⟩
            · cases he
          · cases he
  | vw pl ks t =>
    simp only [rsvC] at he
    split at he
    · simp only [Option.some.injEq, Prod.mk.injEq] at he
      obtain ⟨rfl, rfl⟩ := he
      exact ⟨g, h, hcl, Kept.refl _ _ _ _, fun _ _ _ _ h => h⟩
    · split at he
      · rename_i l lo sz rows _
        split at he
        · rename_i hb
          simp only [Bool.and_eq_true, Bool.not_eq_true', beq_eq_false_iff_ne, ne_eq, decide_eq_true_eq] at hb
          obtain ⟨⟨hb1, hb2⟩, hb3⟩ := hb
          split at he
          · rename_i t0 ht0
            split at he
            · rename_i sz' rows' hnd
              split at he
              · rename_i hc
                obtain ⟨rfl, hlen⟩ := hc
                simp only [Option.some.injEq, Prod.mk.injEq] at he
                obtain ⟨rfl, rfl⟩ := he
                obtain ⟨k1, k2, k3⟩ := h.take (lo := lo) (idx := idx) hb3 ht0 hnd
                obtain ⟨q1, q2⟩ := hcl.2 (keyB_vd hb1)
                exact ⟨_, k1, k2 _ _ _ hcl.1 (q2 l lo rfl).2 rfl hlen, cut_kept ht0 k3 hb3, fun o' c v hne hc => hc.chg k3 fun _ hd => by
                  rcases hd with hd | hd
                  · injection hd with hd _; exact hb2 hd.symm
                  · injection hd with hd _; omega⟩
              · cases he
            · cases he
          · cases he
        · cases he
      · rename_i v'
        simp only [Option.some.injEq, Prod.mk.injEq] at he
        obtain ⟨rfl, rfl⟩ := he
        obtain ⟨rfl, h1⟩ := hcl.1
        exact ⟨g, h, .lit _ _ h1, Kept.refl _ _ _ _, fun _ _ _ _ h => h⟩
      · cases he

theorem rsvRow_sound {x : Nat} (hx : x < 19000) (vs : Nat → Value) (base : Nat) : ∀ (l : List Cl) (o : Nat) (S S' : St) (g : Ghost) (row : List Cl), Rel N w0 g0 ar S tm w g → (∀ j c, l[j]? = some c → ClR S.k g w x (o + j) c (vs (o + j))) →
    rsvRow S md x o l = some (row, S') → ∃ g', Rel N w0 g0 ar S' tm w g' ∧ row.length = l.length ∧ (∀ j c, row[j]? = some c → ClR S'.k g' w 19000 (base + o + j) c (vs (o + j))) ∧
      Kept S S' g g' w (fun i => base + o ≤ i ∧ i < base + o + l.length) := by
  intro l
  induction l with
  | nil =>
    intro o S S' g row h hcl he
    simp only [rsvRow, Option.some.injEq, Prod.mk.injEq] at he
    obtain ⟨rfl, rfl⟩ := he
    exact ⟨g, h, rfl, fun j c hj => by simp at hj, Kept.refl _ _ _ _⟩
  | cons c l ih =>
    intro o S S' g row h hcl he
    simp only [rsvRow] at he
    cases h1 : rsvC S md x o c with
    | none => rw [h1] at he; cases he
    | some q =>
      obtain ⟨c', S1⟩ := q
      rw [h1] at he
      simp only [Option.map_eq_some_iff] at he
      obtain ⟨⟨row', S2⟩, h2, h3⟩ := he
      simp only [Prod.mk.injEq] at h3
      obtain ⟨rfl, rfl⟩ := h3
      obtain ⟨g1, k1, k2, k3, k4⟩ := rsvC_sound (idx := base + o) h hx (by simpa using hcl 0 c rfl) h1
      obtain ⟨g2, m1, m2, m3, m4⟩ := ih (o + 1) S1 S2 g1 row' k1 (fun j c hj => by
        have := k4 (o + 1 + j) c (vs (o + 1 + j)) (by omega) (by have := hcl (j + 1) c (by simpa using hj); rwa [show o + (j + 1) = o + 1 + j by omega] at this)
        exact this) h2
      refine ⟨g2, m1, by simp [m2], fun j c'' hj => ?_, (k3.trans m4).mono fun i hi => ?_⟩
      · cases j with
        | zero =>
          simp at hj; subst hj
          exact m4.st (base + o) c' _ (by omega) (by simpa using k2)
        | succ j =>
          have := m3 j c'' (by simpa using hj)
          rwa [show base + (o + 1) + j = base + o + (j + 1) by omega, show o + 1 + j = o + (j + 1) by omega] at this
      · simp only [List.length_cons]
        rcases hi with hi | hi <;> omega

/-- A value taken out of an operand stands ready from the number base on. -/
theorem rsv_sound {x : Opd} {agg : Bool} {row : List Cl} {S' : St} (h : Rel N w0 g0 ar S tm w g) (he : rsv S md x = some (agg, row, S')) (base : Nat) :
    ∃ g', Rel N w0 g0 ar S' tm w g' ∧ ValR S'.k g' w 19000 base agg row (x.val tm) ∧ Kept S S' g g' w (fun i => base ≤ i ∧ i < base + row.length) := by
  cases x with
  | k c =>
    simp only [rsv, Option.some.injEq, Prod.mk.injEq] at he
    obtain ⟨rfl, rfl, rfl⟩ := he
    exact ⟨g, h, Kc.rel _ _ _ _ _ c, Kept.refl _ _ _ _⟩
  | z cs =>
    simp only [rsv, Option.some.injEq, Prod.mk.injEq] at he
    obtain ⟨rfl, rfl, rfl⟩ := he
    refine ⟨g, h, ⟨_, rfl, by simp, fun o c hc => ?_⟩, Kept.refl _ _ _ _⟩
    simp only [List.getElem?_map, Option.map_eq_some_iff] at hc
    obtain ⟨x, hx, rfl⟩ := hc
    have : ((cs.map Kc.v).toArray).getD o undef = x.v := by simp [Array.getD_eq_getD_getElem?, hx]
    rw [this]; exact Kc.rel _ _ _ _ _ x
  | t s =>
    simp only [rsv] at he
    split at he
    · rename_i agg' row' hg
      split at he
      · rename_i hs
        simp only [Option.map_eq_some_iff] at he
        obtain ⟨⟨row2, S2⟩, h1, h2⟩ := he
        simp only [Prod.mk.injEq] at h2
        obtain ⟨rfl, rfl, rfl⟩ := h2
        have hv := h.vars s
        rw [hg] at hv
        have hv : ValR S.k g w s 0 agg' row' (tm.getD s undef) := hv
        obtain ⟨q1, q2⟩ := hv.cells
        obtain ⟨g', k1, k2, k3, k4⟩ := rsvRow_sound hs (fun j => (cellsV agg' (tm.getD s undef)).getD j undef) base row' 0 S S2 g row2 h (fun j c hj => by simpa using q2 j c hj) h1
        refine ⟨g', k1, ValR.of_cells ?_ (by rw [k2]; exact q1) (fun o c hc => by have := k3 o c hc; rw [Nat.add_zero, Nat.zero_add] at this; exact this), k4.mono fun i hi => by omega⟩
        rcases hv.shape with hsh | ⟨e1, e2⟩
        · exact .inl hsh
        · exact .inr ⟨e1, by omega⟩
      · cases he
    · cases he
end Go.Eng

namespace Go.Eng
variable {N : Nat} {w0 : World} {g0 : Ghost} {ar tm : Array Value} {S : St} {w w' : World} {g g' : Ghost} {md : Option Lab → List Key → Bool}

def app3 (l : Lab) (q : Path) : Lab := (l.1, l.2.1, l.2.2 ++ q)

open Classical in
/-- What stands ready goes to its places; some other labels are dropped. -/
noncomputable def plL (base n : Nat) (ow : Nat → Bool) (δ : Nat → Lab) (drop : Lab → Prop) (l : Lab) : Option Lab :=
  if l.1 = 19000 ∧ base ≤ l.2.1 ∧ l.2.1 < base + n ∧ l.2.2 ≠ [] then (if ow (l.2.1 - base) then some (app3 (δ (l.2.1 - base)) l.2.2) else none)
  else if drop l then none else some l

structure Plc (g : Ghost) (n : Nat) (δ : Nat → Lab) (drop : Lab → Prop) : Prop where
  dj : ∀ j j' q q', j < n → j' < n → q ≠ [] → q' ≠ [] → app3 (δ j) q = app3 (δ j') q' → j = j' ∧ q = q'
  cov : ∀ j q b k, j < n → q ≠ [] → g b k = some (app3 (δ j) q) → drop (app3 (δ j) q)
  lo : ∀ j, j < n → (δ j).1 < 19000
  dr : ∀ l, drop l → l.2.2 ≠ [] ∧ l.1 < 19000

theorem plL_some {base n : Nat} {ow : Nat → Bool} {δ : Nat → Lab} {drop : Lab → Prop} {l m : Lab} (h : plL base n ow δ drop l = some m) :
    (∃ j q, j < n ∧ q ≠ [] ∧ ow j = true ∧ l = (19000, base + j, q) ∧ m = app3 (δ j) q) ∨ (m = l ∧ ¬ drop l ∧ ¬ (l.1 = 19000 ∧ base ≤ l.2.1 ∧ l.2.1 < base + n ∧ l.2.2 ≠ [])) := by
  unfold plL at h
  split at h
  · rename_i hc
    split at h
    · rename_i ho
      injection h with h
      refine .inl ⟨l.2.1 - base, l.2.2, by omega, hc.2.2.2, ho, ?_, h.symm⟩
      obtain ⟨a, b, c⟩ := l
      simp only at hc ⊢
      rw [hc.1, show base + (b - base) = b by omega]
    · cases h
  · rename_i hc
    split at h
    · cases h
    · rename_i hd
      injection h with h
      exact .inr ⟨h.symm, hd, hc⟩
theorem plL_mv {base n : Nat} {ow : Nat → Bool} {δ : Nat → Lab} {drop : Lab → Prop} {j : Nat} {q : Path} (hj : j < n) (hq : q ≠ []) (ho : ow j = true) : plL base n ow δ drop (19000, base + j, q) = some (app3 (δ j) q) := by
  unfold plL
  rw [if_pos ⟨rfl, by simp only; omega, by simp only; omega, hq⟩]
  simp only
  rw [show base + j - base = j by omega, if_pos ho]
theorem plL_fix {base n : Nat} {ow : Nat → Bool} {δ : Nat → Lab} {drop : Lab → Prop} {l : Lab} (h1 : ¬ (l.1 = 19000 ∧ base ≤ l.2.1 ∧ l.2.1 < base + n ∧ l.2.2 ≠ [])) (h2 : ¬ drop l) : plL base n ow δ drop l = some l := by
  unfold plL; rw [if_neg h1, if_neg h2]

theorem plL_ren {base n : Nat} {ow : Nat → Bool} {δ : Nat → Lab} {drop : Lab → Prop} (hp : Plc g n δ drop) {D : Key → Prop} (hD1 : ∀ j, j < n → D (19000, base + j)) (hD2 : ∀ b k l, g b k = some l → drop l → D (l.1, l.2.1)) :
    Ren g (plL base n ow δ drop) D where
  inj := fun b k b' k' l l' m hg hg' h h' => by
    rcases plL_some h with ⟨j, q, hj, hq, ho, rfl, rfl⟩ | ⟨rfl, h1, h2⟩ <;> rcases plL_some h' with ⟨j', q', hj', hq', ho', rfl, e⟩ | ⟨e, h1', h2'⟩
    · obtain ⟨rfl, rfl⟩ := hp.dj _ _ _ _ hj hj' hq hq' e
      rfl
    · rw [← e] at hg' h1'; exact absurd (hp.cov j q b' k' hj hq hg') h1'
    · rw [e] at hg h1; exact absurd (hp.cov j' q' b k hj' hq' hg) h1
    · exact e
  sp := fun l m h hm => by
    rcases plL_some h with ⟨j, q, hj, hq, ho, rfl, rfl⟩ | ⟨rfl, _, _⟩
    · have := hp.lo j hj
      rcases hm with hm | hm <;> simp only [app3] at hm <;> omega
    · rfl
  root := fun r o => plL_fix (by simp) fun hd => (hp.dr _ hd).1 rfl
  un := fun b k l hg hu => plL_fix (fun hc => by
      obtain ⟨a, c, d⟩ := l
      simp only at hc
      rcases hu with hu | hu
      · rcases hu with hu | hu <;> simp only at hu <;> omega
      · apply hu
        have := hD1 (c - base) (by omega)
        rw [show base + (c - base) = c by omega] at this
        simp only
        rw [hc.1]; exact this) (fun hd => by
      rcases hu with hu | hu
      · have := (hp.dr _ hd).2
        rcases hu with hu | hu <;> omega
      · exact hu (hD2 b k l hg hd))

def ownF (row : List Cl) (j : Nat) : Bool := match row[j]? with | some c => ownC c | none => false
/-- A staged cell, behind: at its place. -/
theorem plL_cl {K K' : List Key} {base n : Nat} {row : List Cl} {δ : Nat → Lab} {drop : Lab → Prop} {D : Key → Prop} (hc : Chg K K' D g (gren (plL base n (ownF row) δ drop) g) w w (fun _ _ => False))
    {j : Nat} (hj : j < n) {c : Cl} (hr : row[j]? = some c) {v : Value} (h : ClR K g w 19000 (base + j) c v) :
    match c with
    | .ow t => TR (gren (plL base n (ownF row) δ drop) g) w (δ j).1 (δ j).2.1 (δ j).2.2 t v
    | .vw pl ks t => ∀ r o, ClR K' (gren (plL base n (ownF row) δ drop) g) w r o (.vw pl ks t) v := by
  cases c with
  | vw pl ks t => exact fun r o => ClR.chg (r := r) (o := o) h hc (by simp [ownC])
  | ow t =>
    simp only
    cases hp : ownC (.ow t) with
    | false => exact TR.elsewhere h hc.st hc.none hp
    | true =>
      exact TR.map h hc.st hc.none _ fun b k q _ hq hg => ⟨fun h => h, gren_of hg (plL_mv hj (by simpa using hq) (by simp [ownF, hr, hp]))⟩

def okeysR (d : Nat) : Nat → List Cl → List Key
  | _, [] => []
  | o, c :: l => if ownC c then (d, o) :: okeysR d (o + 1) l else okeysR d (o + 1) l
def okeysT (d : Nat) : Nat → List (Bool × List Cl) → List Key
  | _, [] => []
  | m, r :: l => okeysR d (1000 * m) r.2 ++ okeysT d (m + 1) l
/-- The keys of what a variable owns. -/
def okeys (d : Nat) : A → List Key
  | .val _ row => okeysR d 0 row
  | .tup rs => okeysT d 0 rs
  | .mem row => okeysR d 0 (row.map fun _ => .ow (.sl .ow 0 []))
  | .hid row => okeysR d 0 (row.map .ow)
  | _ => []
theorem okeysR_mem {d : Nat} {row : List Cl} {s o : Nat} {c : Cl} (h : row[o]? = some c) (hc : ownC c = true) : (d, s + o) ∈ okeysR d s row := by
  induction row generalizing s o with
  | nil => simp at h
  | cons x l ih =>
    simp only [okeysR]
    cases o with
    | zero => simp at h; subst h; rw [if_pos hc]; simp
    | succ o =>
      have := ih (s := s + 1) (o := o) (by simpa using h)
      rw [show s + 1 + o = s + (o + 1) by omega] at this
      split
      · exact List.mem_cons_of_mem _ this
      · exact this
theorem okeysT_mem {d : Nat} {rs : List (Bool × List Cl)} {s m o : Nat} {r : Bool × List Cl} {c : Cl} (h : rs[m]? = some r) (h2 : r.2[o]? = some c) (hc : ownC c = true) : (d, 1000 * (s + m) + o) ∈ okeysT d s rs := by
  induction rs generalizing s m with
  | nil => simp at h
  | cons x l ih =>
    simp only [okeysT, List.mem_append]
    cases m with
    | zero => simp at h; subst h; left; rw [Nat.add_zero]; exact okeysR_mem h2 hc
    | succ m =>
      right
      have := ih (s := s + 1) (m := m) (by simpa using h)
      rwa [show s + 1 + m = s + (m + 1) by omega] at this
theorem okeys_mem {d : Nat} {a : A} {o : Nat} (h : ownAt a o = true) : (d, o) ∈ okeys d a := by
  cases a with
  | val agg row =>
    simp only [ownAt] at h
    split at h
    · rename_i c hc
      have := okeysR_mem (d := d) (s := 0) hc h
      rwa [Nat.zero_add] at this
    · cases h
  | tup rs =>
    simp only [ownAt] at h
    split at h
    · rename_i r hr
      split at h
      · rename_i c hc
        have := okeysT_mem (d := d) (s := 0) hr hc h
        rwa [Nat.zero_add, show 1000 * (o / 1000) + o % 1000 = o by omega] at this
      · cases h
    · cases h
  | mem row =>
    simp only [ownAt, decide_eq_true_eq] at h
    have := okeysR_mem (d := d) (s := 0) (o := o) (row := row.map fun _ => Cl.ow (.sl .ow 0 [])) (c := .ow (.sl .ow 0 [])) (by simp [h]) rfl
    rwa [Nat.zero_add] at this
  | hid row =>
    simp only [ownAt] at h
    split at h
    · rename_i t ht
      have := okeysR_mem (d := d) (s := 0) (o := o) (row := row.map Cl.ow) (c := .ow t) (by simp [ht]) h
      rwa [Nat.zero_add] at this
    · cases h
  | _ => cases h
theorem hasL_own {a : A} {o : Nat} {q : Path} (h : hasL a o q = true) : ownAt a o = true := by
  cases q with
  | nil => cases a <;> simp_all [hasL, ownAt]
  | cons x q => cases a <;> exact h

/-- The state where a slot is written anew. -/
def St.set (S : St) (d : Nat) (a : A) : St := (S.kl (okeys d (S.get d))).put d a
theorem St.get_set (S : St) (d : Nat) (a : A) (v : Nat) : (S.set d a).get v = if v = d then a else S.get v := rfl
theorem St.k_set (S : St) (d : Nat) (a : A) : (S.set d a).k = okeys d (S.get d) ++ S.k := rfl

/-- The labels of a slot. -/
def ofSlot (d : Nat) (l : Lab) : Prop := l.1 = d ∧ l.2.2 ≠ []

theorem slot_plc {d n : Nat} (hd : d < 19000) : Plc g n (fun j => (d, j, [])) (ofSlot d) where
  dj := fun j j' q q' _ _ _ _ e => by simpa [app3] using e
  cov := fun j q b k _ hq _ => ⟨rfl, by simpa [app3] using hq⟩
  lo := fun _ _ => hd
  dr := fun l h => ⟨h.2, by rw [h.1]; exact hd⟩

/-- What no memory root has: a label of a root's own cell. -/
theorem Rel.noRoot (h : Rel N w0 g0 ar S tm w g) {d : Nat} (hd : d < 19000) (hm : ∀ row, S.get d ≠ .mem row) {b k : Nat} {l : Lab} (hl : g b k = some l) (he : l.1 = d) : l.2.2 ≠ [] := by
  intro hn
  rcases h.lab b k l hl with h1 | h1 | h1
  · rcases h1 with h1 | h1 <;> omega
  · omega
  · rw [he, hn] at h1
    cases ha : S.get d <;> rw [ha] at h1 <;> simp [hasL] at h1
    exact hm _ ha

/-- What turns where a slot is written. -/
def slotD (S : St) (d : Nat) (k : Key) : Prop := (k.1 = d ∧ ownAt (S.get d) k.2 = true) ∨ 19000 ≤ k.1
theorem Rel.putG (h : Rel N w0 g0 ar S tm w g) {d base n : Nat} {ow : Nat → Bool} {a : A} {v : Value} (hd : d < N) (hd2 : d < 10000) (ha : ∀ row, a ≠ .mem row) (how : ∀ j, j < n → ow j = true → ownAt a j = true)
    (hv : ∀ g', g' = gren (plL base n ow (fun j => (d, j, [])) (ofSlot d)) g → Chg S.k (S.set d a).k (slotD S d) g g' w w (fun _ _ => False) → VarR (S.set d a).k g' w (tm.setIfInBounds d v) ar d a) :
    ∃ g', Rel N w0 g0 ar (S.set d a) (tm.setIfInBounds d v) w g' ∧ Chg S.k (S.set d a).k (slotD S d) g g' w w (fun _ _ => False) := by
  let ρ := plL base n ow (fun j => (d, j, [])) (ofSlot d)
  have hρ : Ren g ρ (slotD S d) := plL_ren (slot_plc (by omega)) (fun j _ => .inr (Nat.le_refl _)) (fun b k l hl hdr => by
    rcases h.lab b k l hl with h1 | h1 | h1
    · have := hdr.1; rcases h1 with h1 | h1 <;> omega
    · exact .inr h1
    · have := hasL_own h1; rw [hdr.1] at this; exact .inl ⟨hdr.1, this⟩)
  have hK : ∀ k ∈ S.k, k ∈ (S.set d a).k := fun k hk => by rw [St.k_set]; exact List.mem_append_right _ hk
  have hDK : ∀ k, slotD S d k → k ∈ (S.set d a).k ∨ 19000 ≤ k.1 := fun k hk => by
    rcases hk with ⟨h1, h2⟩ | hk
    · left; rw [St.k_set]; refine List.mem_append_left _ ?_
      have := okeys_mem (d := d) h2
      obtain ⟨k1, k2⟩ := k
      simp only at h1 this ⊢
      rw [h1]; exact this
    · exact .inr hk
  have hchg := hρ.chg (w := w) hK hDK h.old
  refine ⟨gren ρ g, ?_, hchg⟩
  refine h.chg hchg (by simp [h.size]) (fun _ _ _ hm => hm.elim) (fun b k l hs hl => ?_) (fun b k b' k' l h1 h2 => ?_) (fun b k l hl => ?_) (fun b k l hl => ?_) (fun v hv => ?_) (fun u row hu => ?_) (fun u => ?_)
  · obtain ⟨l', h1, h2⟩ := gren_some hl
    rw [h1, hρ.sp l' l h2 hs]
  · obtain ⟨l1, a1, a2⟩ := gren_some h1
    obtain ⟨l2, b1, b2⟩ := gren_some h2
    rw [hρ.inj _ _ _ _ l1 l2 l a1 b1 a2 b2] at a1
    exact h.inj _ _ _ _ _ a1 b1
  · obtain ⟨l', h1, _⟩ := gren_some hl; exact h.old b k l' h1
  · obtain ⟨l', h1, h2⟩ := gren_some hl
    rcases plL_some h2 with ⟨j, q, hj, hq, ho, rfl, rfl⟩ | ⟨rfl, h3, _⟩
    · right; right
      simp only [app3]
      rw [St.get_set, if_pos rfl]
      cases q with
      | nil => exact absurd rfl hq
      | cons x q => rw [List.nil_append]; have := how j hj ho; cases a <;> exact this
    · rcases h.lab b k l h1 with h4 | h4 | h4
      · exact .inl h4
      · exact .inr (.inl h4)
      · right; right
        rw [St.get_set]
        split
        · rename_i e
          exact absurd ⟨e, h.noRoot (by omega) (h.slot d · hd2) h1 e⟩ h3
        · exact h4
  · rw [St.get_set, if_neg (by omega)]; exact h.hi v hv
  · rw [St.get_set]
    split
    · exact ha row
    · exact h.slot u row hu
  · by_cases hu : u = d
    · subst hu
      right
      rw [St.get_set, if_pos rfl]
      exact hv _ rfl hchg
    · left
      refine ⟨getD_set hu, by rw [St.get_set, if_neg hu], fun o ho hD => ?_⟩
      rcases hD with hD | hD
      · exact hu hD.1
      · rw [h.hi u hD] at ho; cases ho

/-- A slot is written with a value that stands ready. -/
theorem Rel.putRow (h : Rel N w0 g0 ar S tm w g) {d base : Nat} {agg : Bool} {row : List Cl} {v : Value} (hd : d < N) (hd2 : d < 10000) (hv : ValR S.k g w 19000 base agg row v) :
    ∃ g', Rel N w0 g0 ar (S.set d (.val agg row)) (tm.setIfInBounds d v) w g' ∧ Chg S.k (S.set d (.val agg row)).k (slotD S d) g g' w w (fun _ _ => False) :=
  h.putG (base := base) (n := row.length) (ow := ownF row) hd hd2 (by simp) (fun j _ hj => hj) fun g' hg' hchg => by
    subst hg'
    simp only [VarR, getD_set_self (show d < tm.size by rw [h.size]; exact hd)]
    obtain ⟨q1, q2⟩ := hv.cells
    refine ValR.of_cells hv.shape q1 fun o c hc => ?_
    have := plL_cl hchg (List.getElem?_eq_some_iff.1 hc).1 hc (q2 o c hc)
    rw [Nat.zero_add]
    cases c with
    | ow t => exact this
    | vw pl ks t => exact this d o

/-- A slot is written with what owns nothing. -/
theorem Rel.put (h : Rel N w0 g0 ar S tm w g) {d : Nat} {a : A} {v : Value} (hd : d < N) (hd2 : d < 10000) (ha : ∀ row, a ≠ .mem row) (hp : ∀ o, ownAt a o = false)
    (hv : VarR S.k g w (tm.setIfInBounds d v) ar d a) :
    ∃ g', Rel N w0 g0 ar (S.set d a) (tm.setIfInBounds d v) w g' ∧ Chg S.k (S.set d a).k (slotD S d) g g' w w (fun _ _ => False) :=
  h.putG (base := 0) (n := 0) (ow := fun _ => false) hd hd2 ha (fun j hj => by omega) fun g' hg' hchg => hv.chg hchg rfl fun o ho => by rw [hp o] at ho; cases ho
end Go.Eng

namespace Go.Eng

/-! ### Arithmetic and comparisons of plain values -/
def binV : BinOp → Value → Value → Option (Prop × Value)
  | .add, .int k a, .int j b => if k = j then some (True, .int k (k.wrap (a + b))) else none
  | .sub, .int k a, .int j b => if k = j then some (True, .int k (k.wrap (a - b))) else none
  | .mul, .int k a, .int j b => if k = j then some (True, .int k (k.wrap (a * b))) else none
  | .quo, .int k a, .int j b => if k = j then some (b ≠ 0, .int k (k.wrap (a.tdiv b))) else none
  | .rem, .int k a, .int j b => if k = j then some (b ≠ 0, .int k (a.tmod b)) else none
  | .and, .int k a, .int j b => if k = j then some (True, .int k (k.wrap (BitVec.ofInt k.bits a &&& BitVec.ofInt k.bits b).toNat)) else none
  | .or, .int k a, .int j b => if k = j then some (True, .int k (k.wrap (BitVec.ofInt k.bits a ||| BitVec.ofInt k.bits b).toNat)) else none
  | .xor, .int k a, .int j b => if k = j then some (True, .int k (k.wrap (BitVec.ofInt k.bits a ^^^ BitVec.ofInt k.bits b).toNat)) else none
  | .shr, .int k a, .int _ b => some (0 ≤ b, .int k (a.fdiv (2 ^ min b.toNat k.bits)))
  | .shl, .int k a, .int _ b => some (0 ≤ b, .int k (k.wrap (a * 2 ^ min b.toNat k.bits)))
  | .eql, .int k a, .int j b => if k = j then some (True, .bool (a == b)) else none
  | .neq, .int k a, .int j b => if k = j then some (True, .bool (a != b)) else none
  | .lss, .int k a, .int j b => if k = j then some (True, .bool (decide (a < b))) else none
  | .leq, .int k a, .int j b => if k = j then some (True, .bool (decide (a ≤ b))) else none
  | .gtr, .int k a, .int j b => if k = j then some (True, .bool (decide (a > b))) else none
  | .geq, .int k a, .int j b => if k = j then some (True, .bool (decide (a ≥ b))) else none
  | .add, .string a, .string b => some (a.size + b.size ≤ 9223372036854775807, .string (a ++ b))
  | .eql, .string a, .string b => some (True, .bool (a.toList == b.toList))
  | .neq, .string a, .string b => some (True, .bool (!(a.toList == b.toList)))
  | .lss, .string a, .string b => some (True, .bool (Op.bytesLess a.toList b.toList))
  | .leq, .string a, .string b => some (True, .bool (Op.bytesLess a.toList b.toList || (a.toList == b.toList)))
  | .gtr, .string a, .string b => some (True, .bool (!(Op.bytesLess a.toList b.toList || (a.toList == b.toList))))
  | .geq, .string a, .string b => some (True, .bool (!Op.bytesLess a.toList b.toList))
  | _, _, _ => none

def plainV : Value → Bool
  | .int _ _ | .string _ | .bool _ => true
  | _ => false
theorem eqGuard_plain {op : BinOp} {a b : Value} (h : plainV a = true) (t : TypeId) (x y : Operand) : eqGuard op t x y a b = pure () := by
  unfold eqGuard
  cases a <;> simp [plainV] at h <;> cases op <;> rfl
theorem run_seq {P : Program} {α β : Type} (s : Sem α) (f : α → Sem β) (w : World) {a : α} {w' : World} (h : s.run P w = .ok a w') : (s >>= f).run P w = (f a).run P w' := by
  rw [Sem.run_bind, h]; rfl
theorem binV_run0 {P : Program} {op : BinOp} {a b v : Value} {c : Prop} (h : binV op a b = some (c, v)) (hc : c) (t : TypeId) (w : World) :
    plainV a = true ∧ (binOp op t a b).run P w = .ok v w := by
  unfold binV at h
  split at h <;> (try split at h) <;> (try cases h) <;> (try subst_vars) <;> refine ⟨rfl, ?_⟩ <;>
    simp only [binOp, Op.intArith, Op.intDiv, Op.intBits, Op.intCmp, Op.shift, Op.stringOp, pure]
  all_goals (try simp only [ne_eq, not_true_eq_false, if_false])
  all_goals first
    | rfl
    | (rw [if_neg hc]; rfl)
    | (rw [if_neg (by omega)]; rfl)
    | skip
  all_goals (rw [if_neg (by have : IntKind.i64.max = 9223372036854775807 := rfl; rw [this]; omega)]; rfl)
theorem binV_run {P : Program} {op : BinOp} {a b v : Value} {c : Prop} (h : binV op a b = some (c, v)) (hc : c) (t : TypeId) (x y : Operand) (w : World) :
    ((do eqGuard op t x y a b; binOp op t a b) : Sem Value).run P w = .ok v w := by
  obtain ⟨h1, h2⟩ := binV_run0 (P := P) h hc t w
  rw [eqGuard_plain h1]
  exact h2
theorem binV_one {op : BinOp} {a b v : Value} {c : Prop} (h : binV op a b = some (c, v)) : v.oneCell' = true := by
  unfold binV at h; split at h <;> (try split at h) <;> (try cases h) <;> rfl

def unV : UnOp → Value → Option Value
  | .neg, .int k n => some (.int k (k.wrap (0 - n)))
  | .not, .bool b => some (.bool !b)
  | _, _ => none
theorem unV_run {P : Program} {op : UnOp} {a v : Value} (h : unV op a = some v) (w : World) : (Op.unary op a).run P w = .ok v w := by
  unfold unV at h
  split at h <;> simp_all <;> subst_vars <;> simp [Op.unary, Op.intArith, pure, Sem.run]
theorem unV_one {op : UnOp} {a v : Value} (h : unV op a = some v) : v.oneCell' = true := by
  unfold unV at h; split at h <;> (try cases h) <;> rfl

inductive POp where
  | mv (x : Opd)
  | nilc (x : Opd)
  | pick (c x y : Opd)
  | bin (op : BinOp) (x y : Opd)
  | un (op : UnOp) (x : Opd)
  | len (str : Bool) (x : Opd)
  | sli (x : Opd) (lo hi : Option Opd) (sz : Option Nat)
  | ix (x i : Opd)
  | fld (x : Opd) (off n : Nat) (agg : Bool)
  | fa (x : Opd) (root off : Nat)
  | ia (x i : Opd) (sz : Nat)
  | ld (x : Opd) (root n : Nat) (agg : Bool)
  | conv (k : IntKind) (x : Opd)
  | b2s (x : Opd)
  | beq (neg : Bool) (x y : Opd)

def szOf (P : Program) (t : TypeId) : Option Nat := (P.info? t).map (·.size)
def aggOf (P : Program) (t : TypeId) : Option Bool := (P.underlying t).map TypeDesc.isRow

def optB : Option Operand → Option Opd → Bool
  | none, none => true
  | some x, some y => opdB x y
  | _, _ => false
def isByteT (P : Program) (t : TypeId) : Bool := match P.underlying t with | some (.int .u8) => true | _ => false

def POp.fit (P : Program) : Op → POp → Bool
  | .move x, .mv y => opdB x y
  | .nilCheck x, .nilc y => opdB x y
  | .pick c a b, .pick c' a' b' => opdB c c' && opdB a a' && opdB b b'
  | .binOp op _ x y _, .bin op' x' y' => op == op' && opdB x x' && opdB y y'
  | .binOp op t x y _, .beq neg x' y' => op == (if neg then .neq else .eql) && opdB x x' && opdB y y' && (match P.underlying t with | some .bool => true | _ => false)
  | .unOp op _ x, .un op' x' => op == op' && opdB x x'
  | .call c, .len str x' => (match c.callee, c.args.toList, c.argTypes.toList with
      | .builtin .len, [x], [t] => opdB x x' && (match P.underlying t with | some .string => str | some (.slice _) => !str | _ => false)
      | _, _, _ => false)
  | .slice t x lo hi none, .sli x' lo' hi' sz => opdB x x' && optB lo lo' && optB hi hi' &&
      (match P.underlying t, sz with | some .string, none => true | some (.slice e), some n => szOf P e == some n | _, _ => false)
  | .index t x i, .ix x' i' => opdB x x' && opdB i i' && (match P.underlying t with | some .string => true | _ => false)
  | .field t x fi, .fld x' off n agg => opdB x x' && (match P.underlying t with
      | some (.struct fs) => (match fs[fi]? with | some fd => fd.offset == off && szOf P fd.type == some n && aggOf P fd.type == some agg | none => false)
      | _ => false)
  | .fieldAddr t x fi, .fa x' _ off => opdB x x' && (match P.underlying t with
      | some (.struct fs) => (match fs[fi]? with | some fd => fd.offset == off && (match szOf P fd.type with | some (_ + 1) => true | _ => false) | none => false)
      | _ => false)
  | .indexAddr t x i, .ia x' i' sz => opdB x x' && opdB i i' && (match P.underlying t with | some (.slice e) => szOf P e == some sz | _ => false)
  | .load t x, .ld x' _ n agg => opdB x x' && szOf P t == some n && aggOf P t == some agg && (agg || n == 1) && decide (0 < n)
  | .convert src dst x, .conv k x' => opdB x x' && (match P.underlying dst with | some (.int k') => k == k' | _ => false) && (P.underlying src).isSome
  | .convert src dst x, .b2s x' => opdB x x' && (match P.underlying dst, P.underlying src with | some .string, some (.slice e) => isByteT P e | _, _ => false)
  | _, _ => false

/-- A cell of a slot, copied: what is owned there is seen from elsewhere. -/
def vwC (s o : Nat) : Cl → Cl
  | .ow (.sl .ow sz rows) => .vw (some ((s, o, []), 0)) [(s, o)] (.sl .ow sz rows)
  | .ow (.sl .el sz rows) => .vw (some ((s, o, []), 0)) [(s, o)] (.sl .el sz rows)
  | c => c
def vwRow (s : Nat) : Nat → List Cl → List Cl
  | _, [] => []
  | o, c :: l => vwC s o c :: vwRow s (o + 1) l
def vwTup (s : Nat) : Nat → List (Bool × List Cl) → List (Bool × List Cl)
  | _, [] => []
  | m, r :: l => (r.1, vwRow s (1000 * m) r.2) :: vwTup s (m + 1) l
def copyA (s : Nat) : A → A
  | .val agg row => .val agg (vwRow s 0 row)
  | .tup rs => .tup (vwTup s 0 rs)
  | .pr r o => .pr r o
  | .pe pl ks row => .pe pl ks row
  | .fn f ks rows => .fn f ks rows
  | _ => .any
def Kc.cl : Kc → Cl
  | .nl sz => .vw none [] (.sl .ow sz [])
  | c => .ow c.t
def mvA (x : Opd) (f : Nat → A) : A :=
  match x with
  | .t s => copyA s (f s)
  | .k c => .val false [c.cl]
  | .z cs => .val true (cs.map Kc.cl)
/-- A value's cells, as seen from elsewhere. -/
def vrow (x : Opd) (f : Nat → A) : Option (Bool × List Cl) := match mvA x f with | .val agg row => some (agg, row) | _ => none
def lit1 (x : Opd) (f : Nat → A) : Option Value := match x.ev f with | .val false [c] => (match c.tree with | .lit v => some v | _ => none) | _ => none
def intA (x : Opd) (f : Nat → A) : Option Int := match lit1 x f with | some (.int _ n) => some n | _ => none
def bndA (f : Nat → A) (d : Int) : Option Opd → Option Int
  | none => some d
  | some x => intA x f
def strAt (s : ByteArray) (n : Nat) : Nat := ((s.data[n]?).getD 0).toNat

/-- The bytes of rows that are bytes. -/
def rowB (r : Row) : UInt8 := match r with | [.lit (.int .u8 n)] => UInt8.ofNat n.toNat | _ => 0
def rowBOk (r : Row) : Bool := match r with | [.lit (.int .u8 _)] => true | _ => false

def Cl.okB (K : List Key) : Cl → Bool
  | .vw _ ks _ => keyB K ks
  | _ => true

/-- A loaded cell. -/
def ldC (f : Nat → A) (pl : Option (Nat × Nat × Path × Nat × Nat)) (ks : List Key) (j : Nat) : T → Cl
  | .sl fz sz rows => .vw (match pl with
      | some (r, o, p, i, oo) => (match (treeAt (f r) o).bind (ndT (p ++ [(i, oo + j)])) with | some (.sl md2 sz2 rows2) => if md2 ≠ .fro ∧ md2 = fz ∧ sz2 = sz ∧ rows2.length = rows.length then some ((r, o, p ++ [(i, oo + j)]), 0) else none | _ => none)
      | none => none) ks (.sl fz sz rows)
  | t => .ow t
def ldRow (f : Nat → A) (pl : Option (Nat × Nat × Path × Nat × Nat)) (ks : List Key) : Nat → Row → List Cl
  | _, [] => []
  | j, t :: l => ldC f pl ks j t :: ldRow f pl ks (j + 1) l

def oneOr (c : Prop) (agg : Bool) (row : List Cl) : Option (Prop × A) := if agg then some (c, .val true row) else match row with | [x] => some (c, .val false [x]) | _ => none

/-- A copy; of a lent argument, what it is by now. -/
def mvX (x : Opd) (f : Nat → A) : A := match x.ev f with
  | .al m agg => (match f (16000 + m) with | .hid row => .val agg (vwRow (16000 + m) 0 (row.map .ow)) | _ => .any)
  | _ => mvA x f
def pev (K : List Key) (f : Nat → A) : POp → Option (Prop × A)
  | .mv x => some (True, mvX x f)
  | .nilc x => match x.ev f with
    | .pr r o => some (True, .pr r o)
    | .pe pl ks row => some (True, .pe pl ks row)
    | _ => none
  | .pick c x y => match lit1 c f with
    | some (.bool b) => some (True, if b then mvA x f else mvA y f)
    | _ => none
  | .bin op x y => match lit1 x f, lit1 y f with
    | some u, some v => (binV op u v).map fun r => (r.1, .val false [.ow (.lit r.2)])
    | _, _ => none
  | .un op x => match lit1 x f with
    | some u => (unV op u).map fun r => (True, .val false [.ow (.lit r)])
    | _ => none
  | .len true x => match lit1 x f with
    | some (.string s) => some (True, .val false [.ow (.lit (.int .i64 s.size))])
    | _ => none
  | .len false x => match vrow x f with
    | some (false, [c]) => (match c.tree with | .sl _ _ rows => some (True, .val false [.ow (.lit (.int .i64 rows.length))]) | _ => none)
    | _ => none
  | .sli x lo hi none => match lit1 x f with
    | some (.string s) => match bndA f 0 lo, bndA f s.size hi with
      | some l, some h => some (0 ≤ l ∧ l ≤ h ∧ h ≤ s.size, .val false [.ow (.lit (.string (s.extract l.toNat h.toNat)))])
      | _, _ => none
    | _ => none
  | .sli x lo hi (some sz) => match vrow x f with
    | some (false, [c]) => (match c.tree with
      | .sl fz sz' rows => (match bndA f 0 lo, bndA f rows.length hi with
        | some l, some h => if sz' = sz then (match c with
          | .vw pl ks _ => some (0 ≤ l ∧ l ≤ h ∧ h ≤ rows.length, .val false [.vw (pl.map fun q => (q.1, q.2 + l.toNat)) ks (.sl fz sz ((rows.drop l.toNat).take (h.toNat - l.toNat)))])
          | .ow _ => some (0 ≤ l ∧ l ≤ h ∧ h ≤ rows.length, .val false [.ow (.sl .fro sz ((rows.drop l.toNat).take (h.toNat - l.toNat)))])) else none
        | _, _ => none)
      | _ => none)
    | _ => none
  | .ix x i => match lit1 x f, intA i f with
    | some (.string s), some n => some (0 ≤ n ∧ n < s.size, .val false [.ow (.lit (.int .u8 (strAt s n.toNat)))])
    | _, _ => none
  | .fld x off n agg => match vrow x f with
    | some (true, row) => oneOr (off + n ≤ row.length) agg ((row.drop off).take n)
    | _ => none
  | .fa x root off => match x.ev f with
    | .pr r o => match f r with
      | .mem row => some (o + off < row.length, .pr r (o + off))
      | _ => none
    | .pe pl ks row => some (off < row.length, .pe (pl.map fun q => (q.1, q.2.1, q.2.2.1, q.2.2.2.1, q.2.2.2.2 + off)) ks (row.drop off))
    | _ => none
  | .ia x i sz => match vrow x f, intA i f with
    | some (false, [c]), some n => (match c.tree with
      | .sl fz sz' rows => if sz' = sz then (match c with
        | .vw pl ks _ => some (0 ≤ n ∧ n < rows.length, .pe (pl.map fun q => (q.1.1, q.1.2.1, q.1.2.2, q.2 + n.toNat, 0)) ks (rows.getD n.toNat []))
        | .ow _ => some (0 ≤ n ∧ n < rows.length, .pe none [] (rows.getD n.toNat []))) else none
      | _ => none)
    | _, _ => none
  | .ld x root n agg => match x.ev f with
    | .pr r o => (match f r with
      | .mem row => oneOr (o + n ≤ row.length) agg (vwRow r o ((row.drop o).take n))
      | _ => none)
    | .pe pl ks row => oneOr (keyB K ks = true ∧ n ≤ row.length) agg (ldRow f pl ks 0 (row.take n))
    | _ => none
  | .conv k x => match lit1 x f with
    | some (.int _ n) => some (True, .val false [.ow (.lit (.int k (k.wrap n)))])
    | _ => none
  | .b2s x => match vrow x f with
    | some (false, [c]) => (match c.tree with
      | .sl _ sz rows => some ((sz == 1 && rows.all rowBOk && c.okB K) = true, .val false [.ow (.lit (.string ⟨(rows.map rowB).toArray⟩))])
      | _ => none)
    | _ => none
  | .beq neg x y => match lit1 x f, lit1 y f with
    | some (.bool a), some (.bool b) => some (True, .val false [.ow (.lit (.bool (if neg then a != b else a == b)))])
    | _, _ => none
end Go.Eng

namespace Go.Eng
variable {P : Program} {N : Nat} {w0 : World} {g0 : Ghost} {ar tm : Array Value} {S : St} {w w' : World} {g g' : Ghost} {K : List Key}

theorem ClR.view {s o : Nat} {c : Cl} {v : Value} (h : ClR K g w s o c v) (r' o' : Nat) : ClR K g w r' o' (vwC s o c) v := by
  cases c with
  | vw pl ks t => exact h
  | ow t =>
    cases t with
    | lit x => exact TR.elsewhere0 h rfl
    | bad => exact TR.elsewhere0 h rfl
    | sl fz sz rows =>
      cases fz with
      | fro => exact TR.elsewhere0 h rfl
      | ow =>
        refine ⟨TR.hd h, fun hv => ⟨TR.sh h, fun l lo e => ?_⟩⟩
        injection e with e; injection e with e1 e2; subst e1; subst e2
        exact ⟨by simp, TR.pl h (by simp)⟩
      | el =>
        refine ⟨TR.hd h, fun hv => ⟨TR.sh h, fun l lo e => ?_⟩⟩
        injection e with e; injection e with e1 e2; subst e1; subst e2
        exact ⟨by simp, TR.pl h (by simp)⟩
theorem vwRow_get {s : Nat} : ∀ (row : List Cl) (b j : Nat), (vwRow s b row)[j]? = (row[j]?).map (vwC s (b + j)) := by
  intro row
  induction row with
  | nil => intro b j; simp [vwRow]
  | cons c l ih =>
    intro b j
    cases j with
    | zero => simp [vwRow]
    | succ j =>
      simp only [vwRow, List.getElem?_cons_succ, ih]
      rw [show b + 1 + j = b + (j + 1) by omega]
theorem vwRow_len {s : Nat} (row : List Cl) (b : Nat) : (vwRow s b row).length = row.length := by
  induction row generalizing b with
  | nil => rfl
  | cons c l ih => simp [vwRow, ih]
theorem vwC_plain (s o : Nat) (c : Cl) : ownC (vwC s o c) = false := by
  cases c with
  | vw pl ks t => rfl
  | ow t => cases t with
    | sl fz sz rows => cases fz <;> rfl
    | _ => rfl
theorem ValR.view {s base : Nat} {agg : Bool} {row : List Cl} {v : Value} (h : ValR K g w s base agg row v) (r' b' : Nat) : ValR K g w r' b' agg (vwRow s base row) v := by
  obtain ⟨h1, h2⟩ := h.cells
  refine ValR.of_cells ?_ (by rw [vwRow_len]; exact h1) fun o c hc => ?_
  · rcases h.shape with h | ⟨h, h'⟩
    · exact .inl h
    · exact .inr ⟨h, by rw [vwRow_len]; exact h'⟩
  · rw [vwRow_get] at hc
    simp only [Option.map_eq_some_iff] at hc
    obtain ⟨c0, hc0, rfl⟩ := hc
    exact (h2 o c0 hc0).view _ _
theorem Kc.clR (K : List Key) (g : Ghost) (w : World) (r o : Nat) (c : Kc) : ClR K g w r o c.cl c.v := by
  cases c with
  | nl sz => exact ⟨⟨none, 0, rfl, by simp, by simp, by simp⟩, fun _ => ⟨.emp _ _ _ _, by simp⟩⟩
  | _ => exact .lit _ _ rfl
def plainRow (row : List Cl) : Prop := ∀ c ∈ row, ownC c = false
theorem ownAt_plain {agg : Bool} {row : List Cl} (h : plainRow row) (o : Nat) : ownAt (.val agg row) o = false := by
  simp only [ownAt]
  split
  · rename_i c hc; exact h c (List.mem_of_getElem? hc)
  · rfl
theorem vwRow_plain (s b : Nat) (row : List Cl) : plainRow (vwRow s b row) := by
  intro c hc
  obtain ⟨j, hj, rfl⟩ := List.getElem_of_mem hc
  have := vwRow_get (s := s) row b j
  rw [List.getElem?_eq_getElem hj] at this
  have := this.symm
  simp only [Option.map_eq_some_iff] at this
  obtain ⟨c0, _, h⟩ := this
  rw [← h]; exact vwC_plain _ _ _
theorem Kc.cl_plain (c : Kc) : ownC c.cl = false := by cases c <;> rfl

/-- A copy of a value, as a slot's content. -/
theorem mvA_rel (h : Rel N w0 g0 ar S tm w g) (x : Opd) {d : Nat} (hd : d < N) : VarR S.k g w (tm.setIfInBounds d (x.val tm)) ar d (mvA x S.get) ∧ ∀ o, ownAt (mvA x S.get) o = false := by
  have hsz : d < tm.size := by rw [h.size]; exact hd
  cases x with
  | k c =>
    refine ⟨?_, ownAt_plain (by intro c' hc; simp at hc; subst hc; exact c.cl_plain)⟩
    simp only [mvA, VarR, getD_set_self hsz]
    exact Kc.clR _ _ _ _ _ c
  | z cs =>
    refine ⟨?_, ownAt_plain (by intro c' hc; simp only [List.mem_map] at hc; obtain ⟨c, _, rfl⟩ := hc; exact c.cl_plain)⟩
    simp only [mvA, VarR, getD_set_self hsz]
    refine ⟨_, rfl, by simp, fun o c hc => ?_⟩
    simp only [List.getElem?_map, Option.map_eq_some_iff] at hc
    obtain ⟨x, hx, rfl⟩ := hc
    have : ((cs.map Kc.v).toArray).getD o undef = x.v := by simp [Array.getD_eq_getD_getElem?, hx]
    rw [this]; exact Kc.clR _ _ _ _ _ x
  | t s =>
    have hs := h.vars s
    simp only [mvA, Opd.val]
    generalize S.get s = a at hs
    cases a with
    | any => exact ⟨trivial, fun _ => rfl⟩
    | mem row => exact ⟨trivial, fun _ => rfl⟩
    | hid row => exact ⟨trivial, fun _ => rfl⟩
    | val agg row =>
      refine ⟨?_, ownAt_plain (vwRow_plain _ _ _)⟩
      simp only [copyA, VarR, getD_set_self hsz]
      exact ValR.view hs d 0
    | tup rs =>
      obtain ⟨vs, h1, h2, h3⟩ := hs
      have hget : ∀ (rs : List (Bool × List Cl)) (b m : Nat), (vwTup s b rs)[m]? = (rs[m]?).map fun r => (r.1, vwRow s (1000 * (b + m)) r.2) := by
        intro rs
        induction rs with
        | nil => intro b m; simp [vwTup]
        | cons r l ih =>
          intro b m
          cases m with
          | zero => simp [vwTup]
          | succ m => simp only [vwTup, List.getElem?_cons_succ, ih]; rw [show b + 1 + m = b + (m + 1) by omega]
      have hlen : ∀ (rs : List (Bool × List Cl)) (b : Nat), (vwTup s b rs).length = rs.length := by
        intro rs
        induction rs with
        | nil => intro b; rfl
        | cons r l ih => intro b; simp [vwTup, ih]
      refine ⟨⟨vs, ?_, ?_, fun m agg row e => ?_⟩, fun o => ?_⟩
      · rw [getD_set_self hsz]; exact h1
      · rw [hlen]; exact h2
      · rw [hget] at e
        simp only [Option.map_eq_some_iff, Prod.mk.injEq] at e
        obtain ⟨⟨agg', row'⟩, e1, rfl, rfl⟩ := e
        obtain ⟨q1, q2⟩ := h3 _ _ _ e1
        rw [Nat.zero_add]
        exact ⟨by rw [vwRow_len]; exact q1, q2.view d _⟩
      · simp only [copyA, ownAt, hget]
        cases rs[o / 1000]? with
        | none => rfl
        | some r =>
          simp only [Option.map_some]
          split
          · rename_i c hc; exact vwRow_plain _ _ _ c (List.mem_of_getElem? hc)
          · rfl
    | pr r o =>
      obtain ⟨b, k, h1, h2⟩ := hs
      exact ⟨⟨b, k, by rw [getD_set_self hsz]; exact h1, h2⟩, fun _ => rfl⟩
    | pe pl ks row => exact ⟨by simp only [copyA, VarR, getD_set_self hsz]; exact hs, fun _ => rfl⟩
    | fn f ks rows =>
      obtain ⟨caps, h1, h2⟩ := hs
      exact ⟨⟨caps, by rw [getD_set_self hsz]; exact h1, h2⟩, fun _ => rfl⟩
    | al m agg => exact ⟨trivial, fun _ => rfl⟩

/-- A value as seen from elsewhere. -/
theorem one_cells {v : Value} (h : v.oneCell' = true) : v.cells = #[v] := by cases v <;> first | rfl | simp [Value.oneCell'] at h
theorem mvX_rel (h : Rel N w0 g0 ar S tm w g) (x : Opd) {d : Nat} (hd : d < N) : VarR S.k g w (tm.setIfInBounds d (x.val tm)) ar d (mvX x S.get) ∧ ∀ o, ownAt (mvX x S.get) o = false := by
  unfold mvX
  split
  · rename_i m agg hx
    split
    · rename_i row hr
      have hsz : d < tm.size := by rw [h.size]; exact hd
      cases x with
      | k c => simp [Opd.ev] at hx
      | z cs => simp [Opd.ev] at hx
      | t s =>
        have hs := h.vars s
        simp only [Opd.ev] at hx
        rw [hx] at hs
        obtain ⟨e1, e2⟩ := hs
        have hh := h.vars (16000 + m)
        rw [hr] at hh
        obtain ⟨q1, q2⟩ := hh
        rw [show 16000 + m - 16000 = m by omega, ← e1] at q1
        simp only [show 16000 + m - 16000 = m by omega, ← e1] at q2
        have hc : (tm.getD s undef).cells = cellsV agg (tm.getD s undef) := by
          rcases e2 with ⟨rfl, arr, e⟩ | ⟨rfl, e⟩
          · rw [e]; rfl
          · rw [one_cells e]; rfl
        refine ⟨?_, ownAt_plain (vwRow_plain _ _ _)⟩
        simp only [VarR, getD_set_self hsz, Opd.val]
        rw [hc] at q1 q2
        have hv : ValR S.k g w (16000 + m) 0 agg (row.map .ow) (tm.getD s undef) := by
          refine ValR.of_cells ?_ (by simpa using q1) fun o c hcc => ?_
          · rcases e2 with ⟨rfl, arr, e⟩ | ⟨rfl, e⟩
            · exact .inl ⟨rfl, arr, e⟩
            · refine .inr ⟨rfl, ?_⟩
              have : (cellsV false (tm.getD s undef)).size = 1 := rfl
              simp; omega
          · simp only [List.getElem?_map, Option.map_eq_some_iff] at hcc
            obtain ⟨t, ht, rfl⟩ := hcc
            rw [Nat.zero_add]; exact q2 o t ht
        exact hv.view d 0
    · exact ⟨trivial, fun _ => rfl⟩
  · exact mvA_rel h x hd
theorem vrow_rel (h : Rel N w0 g0 ar S tm w g) {x : Opd} {agg : Bool} {row : List Cl} (he : vrow x S.get = some (agg, row)) (d b : Nat) : ValR S.k g w d b agg row (x.val tm) ∧ plainRow row := by
  cases x with
  | k c =>
    simp only [vrow, mvA, Option.some.injEq, Prod.mk.injEq] at he
    obtain ⟨rfl, rfl⟩ := he
    exact ⟨Kc.clR _ _ _ _ _ c, by intro c' hc; simp at hc; subst hc; exact c.cl_plain⟩
  | z cs =>
    simp only [vrow, mvA, Option.some.injEq, Prod.mk.injEq] at he
    obtain ⟨rfl, rfl⟩ := he
    refine ⟨⟨_, rfl, by simp, fun o c hc => ?_⟩, by intro c' hc; simp only [List.mem_map] at hc; obtain ⟨c, _, rfl⟩ := hc; exact c.cl_plain⟩
    simp only [List.getElem?_map, Option.map_eq_some_iff] at hc
    obtain ⟨x, hx, rfl⟩ := hc
    have : ((cs.map Kc.v).toArray).getD o undef = x.v := by simp [Array.getD_eq_getD_getElem?, hx]
    rw [this]; exact Kc.clR _ _ _ _ _ x
  | t s =>
    have hs := h.vars s
    simp only [vrow, mvA] at he
    generalize S.get s = a at hs he
    cases a with
    | val agg' row' =>
      simp only [copyA, Option.some.injEq, Prod.mk.injEq] at he
      obtain ⟨rfl, rfl⟩ := he
      exact ⟨ValR.view hs d b, vwRow_plain _ _ _⟩
    | _ => simp [copyA] at he
theorem lit1_val (h : Rel N w0 g0 ar S tm w g) {x : Opd} {v : Value} (he : lit1 x S.get = some v) : x.val tm = v := by
  unfold lit1 at he
  split at he
  · rename_i c hc
    split at he
    · rename_i v' ht
      injection he with he; subst he
      cases x with
      | k c' =>
        simp only [Opd.ev] at hc
        injection hc with _ hc; injection hc with hc _
        subst hc
        cases c' <;> simp [Cl.tree, Kc.t] at ht <;> rw [← ht] <;> rfl
      | z cs => simp [Opd.ev] at hc
      | t s =>
        have hs := h.vars s
        simp only [Opd.ev] at hc
        rw [hc] at hs
        have := ClR.hd (show ClR S.k g w s 0 c (tm.getD s undef) from hs)
        rw [ht] at this
        exact this.1
    · cases he
  · cases he
theorem intA_val (h : Rel N w0 g0 ar S tm w g) {x : Opd} {n : Int} (he : intA x S.get = some n) : ∃ k, x.val tm = .int k n := by
  unfold intA at he
  split at he
  · rename_i k n' hl
    simp at he; subst he
    exact ⟨k, lit1_val h hl⟩
  · cases he
theorem optB_eval {x : Option Operand} {y : Option Opd} (h : optB x y = true) (a : Act) : x.map a.eval = y.map (Opd.val a.tmps) := by
  unfold optB at h
  split at h
  · rfl
  · simp [opdB_eval h a]
  · cases h
theorem bndA_val (h : Rel N w0 g0 ar S tm w g) {d n : Int} {x : Option Opd} (he : bndA S.get d x = some n) : (x = none ∧ d = n) ∨ ∃ k y, x = some y ∧ y.val tm = .int k n := by
  cases x with
  | none => left; simpa [bndA] using he
  | some y =>
    right
    obtain ⟨k, hk⟩ := intA_val h he
    exact ⟨k, y, rfl, hk⟩
theorem oneOr_rel {c c' : Prop} {agg : Bool} {row : List Cl} {r : A} (he : oneOr c' agg row = some (c, r)) : c = c' ∧ r = .val agg row ∧ (agg = false → row.length = 1) := by
  unfold oneOr at he
  split at he
  · rename_i h; subst h; simp only [Option.some.injEq, Prod.mk.injEq] at he; exact ⟨he.1.symm, he.2.symm, by simp⟩
  · rename_i h
    split at he
    · simp only [Option.some.injEq, Prod.mk.injEq] at he; have : agg = false := by simpa using h
      subst this; exact ⟨he.1.symm, he.2.symm, by simp⟩
    · cases he
/-- A slot's content, plain. -/
theorem val_put (h : Rel N w0 g0 ar S tm w g) {d : Nat} (hd : d < N) {agg : Bool} {row : List Cl} {v : Value} (hv : ValR S.k g w d 0 agg row v) (hp : plainRow row) :
    VarR S.k g w (tm.setIfInBounds d v) ar d (.val agg row) ∧ ∀ o, ownAt (.val agg row) o = false :=
  ⟨by simp only [VarR, getD_set_self (show d < tm.size by rw [h.size]; exact hd)]; exact hv, ownAt_plain hp⟩
theorem lit_put (h : Rel N w0 g0 ar S tm w g) {d : Nat} (hd : d < N) {v : Value} (h1 : v.oneCell' = true) :
    VarR S.k g w (tm.setIfInBounds d v) ar d (.val false [.ow (.lit v)]) ∧ ∀ o, ownAt (.val false [.ow (.lit v)]) o = false :=
  val_put h hd (TR.lit _ _ h1) (by intro c hc; simp at hc; subst hc; rfl)
end Go.Eng

namespace Go.Eng
variable {P : Program} {N : Nat} {w0 : World} {g0 : Ghost} {ar tm : Array Value} {S : St} {w w' : World} {g g' : Ghost} {K : List Key}

theorem cell_eq {w : World} {b k : Nat} {v : Value} : w.cell? ⟨b, k, none⟩ = some v ↔ ∃ arr e fr, w.heap[b]? = some (.cells arr e fr) ∧ arr[k]? = some v := by
  unfold World.cell?
  constructor
  · intro h
    split at h
    · rename_i c e fr hb
      exact ⟨c, e, fr, hb, by simpa using h⟩
    · cases h
  · rintro ⟨arr, e, fr, hb, hk⟩
    simp [hb, hk]
theorem run_isAgg {t : TypeId} {b : Bool} (h : aggOf P t = some b) (w : World) : (isAgg t).run P w = .ok b w := by
  unfold aggOf at h
  cases hu : P.underlying t with
  | none => simp [hu] at h
  | some d =>
    simp [hu] at h
    unfold isAgg
    rw [run_seq _ _ _ (run_underlying hu w)]
    subst h
    cases d <;> rfl
theorem run_sizeOf {t : TypeId} {n : Nat} (h : szOf P t = some n) (w : World) : (sizeOf t).run P w = .ok n w := by
  unfold szOf at h
  cases hi : P.info? t with
  | none => simp [hi] at h
  | some i =>
    simp [hi] at h
    simp [sizeOf, typeInfo, hi, h]
theorem run_fieldPlace {fd : Field} {n : Nat} (h : szOf P fd.type = some (n + 1)) (a : Addr) (w : World) : (fieldPlace a fd).run P w = .ok (a.add fd.offset) w := by
  unfold fieldPlace
  rw [run_seq _ _ _ (run_sizeOf h w)]
  rfl
theorem ByteArray.get?_eq (s : ByteArray) (n : Nat) (h : n < s.size) : s[n]? = some s[n] := by
  exact getElem?_pos s n h
theorem run_value {s : Sem Value} {v : Value} {w' : World} (h : s.run P w = .ok v w') : ((do pure (Next.value (← s))) : Sem Next).run P w = .ok (.value v) w' := by
  rw [run_seq _ _ _ h]; rfl
/-- A row read in memory. -/
theorem range_sh {w : World} {b off : Nat} {arr : Array Value} {e : TypeId} {fr : Nat × Nat} (hb : w.heap[b]? = some (.cells arr e fr)) {n : Nat} (hn : off + n ≤ arr.size) :
    w.rangeAt b off ((List.range n).map fun j => arr.getD (off + j) undef) := by
  intro j v hj
  simp only [List.getElem?_map, List.getElem?_range, Option.map_eq_some_iff] at hj
  obtain ⟨k, hk, rfl⟩ := hj
  have hlt : j < n := by
    rcases Nat.lt_or_ge j n with h | h
    · exact h
    · simp [List.getElem?_eq_none (show (List.range n).length ≤ j by simpa using h)] at hk
  rw [List.getElem?_range hlt] at hk
  injection hk with hk; subst hk
  refine cell_eq.2 ⟨arr, e, fr, hb, ?_⟩
  rw [Array.getD_eq_getD_getElem?, Array.getElem?_eq_getElem (by omega)]; rfl
def rowV (arr : Array Value) (off n : Nat) : Array Value := ((List.range n).map fun j => arr.getD (off + j) undef).toArray
theorem rowV_size (arr : Array Value) (off n : Nat) : (rowV arr off n).size = n := by simp [rowV]
theorem rowV_get (arr : Array Value) (off n j : Nat) (h : j < n) : (rowV arr off n).getD j undef = arr.getD (off + j) undef := by
  simp only [rowV, Array.getD_eq_getD_getElem?, List.getElem?_toArray, List.getElem?_map]
  rw [List.getElem?_range h]; rfl
theorem run_load_cells {t : TypeId} {b off n : Nat} {agg : Bool} {arr : Array Value} {e : TypeId} {fr : Nat × Nat} (hb : w.heap[b]? = some (.cells arr e fr))
    (hn : off + n ≤ arr.size) (hs : szOf P t = some n) (ha : aggOf P t = some agg) (h1 : agg = true ∨ n = 1) :
    (Instr.loadAt t (.pointer (some ⟨b, off, none⟩))).run P w = .ok (if agg then .agg (rowV arr off n) else arr.getD off undef) w := by
  have hl : (loadCells ⟨b, off, none⟩ n).run P w = .ok (rowV arr off n) w := by
    have := run_loadCells_list (P := P) w ⟨b, off, none⟩ ((List.range n).map fun j => arr.getD (off + j) undef) (fun j v hv => by rw [Addr.add_mid]; exact range_sh hb hn j v hv)
    simpa [rowV] using this
  have hc : w.cell? ⟨b, off, none⟩ = if 0 < n then some (arr.getD off undef) else w.cell? ⟨b, off, none⟩ := by
    split
    · exact cell_eq.2 ⟨arr, e, fr, hb, by rw [Array.getD_eq_getD_getElem?, Array.getElem?_eq_getElem (by omega)]; rfl⟩
    · rfl
  show (loadVar t ⟨b, off, none⟩).run P w = _
  unfold loadVar
  rw [run_seq _ _ _ (run_isAgg ha w)]
  cases agg with
  | true =>
    simp only [if_true]
    rw [run_seq _ _ _ (run_sizeOf hs w), run_seq _ _ _ hl]; rfl
  | false =>
    have : n = 1 := by simpa using h1
    subst this
    simp only [Bool.false_eq_true, if_false]
    rw [run_load, hc]; rfl
theorem run_builtin {o : Oper} {ρ : Operand → Value} {b : Builtin} {args : Array Operand} {tys : Array TypeId} (ho : o.op = .call ⟨.builtin b, args, tys⟩) :
    execOp ρ o = builtin b tys o.type (args.map fun | .const _ => true | _ => false) (args.map ρ) := by
  simp only [execOp, ho]
  rfl
theorem map_one (ρ : Operand → Value) (x : Operand) : (#[x].map ρ) = #[ρ x] := by simp
theorem run_sliceBound {k : IntKind} {i : Int} {y : Nat} {code : BoundsCode} (h : 0 ≤ i ∧ i ≤ y) (w : World) : (Instr.sliceBound (.int k i) y code).run P w = .ok i.toNat w := by
  simp [Instr.sliceBound, asIntOf, h]
/-- The bounds of a slice expression, both in order. -/
theorem run_bounds {isS : Bool} {len cap : Nat} (hr : Rel N w0 g0 ar S tm w g) {lo hi : Option Opd} {l h : Int} (hl : bndA S.get 0 lo = some l) (hh : bndA S.get len hi = some h)
    (h0 : 0 ≤ l) (h1 : l ≤ h) (h2 : h ≤ len) (hc : len ≤ cap) : (Instr.sliceBounds isS len cap (lo.map (Opd.val tm)) (hi.map (Opd.val tm)) none).run P w = .ok (l.toNat, h.toNat, cap) w := by
  rcases bndA_val hr hh with ⟨rfl, e1⟩ | ⟨k1, y1, rfl, e1⟩ <;> rcases bndA_val hr hl with ⟨rfl, e2⟩ | ⟨k2, y2, rfl, e2⟩
  · simp [Instr.sliceBounds]; omega
  · have := fun code => run_sliceBound (P := P) (k := k2) (i := l) (y := len) (code := code) ⟨by omega, by omega⟩ w
    subst e1
    simp [Instr.sliceBounds, e2, this]
  · have := fun code => run_sliceBound (P := P) (k := k1) (i := h) (y := cap) (code := code) ⟨by omega, by omega⟩ w
    simp [Instr.sliceBounds, e1, this]; omega
  · have h3 := fun code => run_sliceBound (P := P) (k := k1) (i := h) (y := cap) (code := code) ⟨by omega, by omega⟩ w
    have h4 := fun code => run_sliceBound (P := P) (k := k2) (i := l) (y := h.toNat) (code := code) ⟨by omega, by omega⟩ w
    simp [Instr.sliceBounds, e1, e2, h3, h4]

/-- A cut of a slice that is read. -/
theorem ShR.cut {L : Option Lab → Prop} {fz : Md} {sz : Nat} {rows : List Row} {a : Option Addr} {n c : Nat} (h : ShR L g w (.sl fz sz rows) (.slice a n c)) (fz' : Md) {l m : Nat} (h2 : l + m ≤ rows.length) :
    ShR L g w (.sl fz' sz ((rows.drop l).take m)) (.slice (if c = l then a else a.map (·.add (l * sz))) m (c - l)) := by
  have hlen : ((rows.drop l).take m).length = m := by simp; omega
  by_cases he : m = 0
  · subst he; simp only [List.take_zero]; exact .emp _ _ _ _
  · cases h with
    | emp => simp at h2; omega
    | sl _ _ b off _ _ arr e fr hb hl hg hs hn hle hc =>
      have hm : l * sz + m * sz ≤ rows.length * sz := by
        rw [← Nat.add_mul]; exact Nat.mul_le_mul_right _ h2
      rw [if_neg (show ¬ c = l by omega)]
      have hadd : (Option.map (fun x : Addr => x.add (l * sz)) (some ⟨b, off, none⟩)) = some ⟨b, off + l * sz, none⟩ := by simp [Addr.add_mid]
      rw [hadd]
      have := ShR.sl (L := L) (g := g) (w := w) fz' ((rows.drop l).take m) b (off + l * sz) (c - l) sz arr e fr hb
        (fun r hr => hl r (List.mem_of_mem_drop (List.mem_of_mem_take hr))) (fun k k1 k2 => hg k (by omega) (by rw [hlen] at k2; omega)) (by rw [hlen]; omega) (by rw [hlen]; omega) (by rw [hlen]; omega)
        (fun i o c' hgc => by
          obtain ⟨k1, k2⟩ := get2_cut hgc
          have := hc _ _ _ k1
          rwa [show off + (l + i) * sz + o = off + l * sz + i * sz + o by rw [Nat.add_mul]; omega] at this)
      rw [hlen] at this
      exact this
theorem HdR.cut {fz : Md} {sz : Nat} {rows : List Row} {a : Option Addr} {n c : Nat} (h : HdR (.sl fz sz rows) (.slice a n c)) (fz' : Md) {l m : Nat} (h2 : l + m ≤ rows.length) :
    HdR (.sl fz' sz ((rows.drop l).take m)) (.slice (if c = l then a else a.map (·.add (l * sz))) m (c - l)) := by
  have hlen : ((rows.drop l).take m).length = m := by simp; omega
  obtain ⟨a', c', e, h3, h4, h5⟩ := h
  injection e with e1 e2 e3; subst e1; subst e3
  refine ⟨_, _, by rw [hlen], by rw [hlen]; omega, by rw [hlen]; omega, fun hp => ?_⟩
  rw [hlen] at hp
  obtain ⟨b, off, rfl⟩ := h5 (by omega)
  rw [if_neg (by omega)]
  exact ⟨b, off + l * sz, by simp [Addr.add_mid]⟩
theorem PlR.cut {l : Lab} {lo : Nat} {fz : Md} {sz : Nat} {rows : List Row} {a : Option Addr} {n c : Nat} (h : PlR g w l lo (.sl fz sz rows) (.slice a n c)) (hle : rows.length ≤ c) {k m : Nat} (h2 : k + m ≤ rows.length) :
    PlR g w l (lo + k) (.sl fz sz ((rows.drop k).take m)) (.slice (if c = k then a else a.map (·.add (k * sz))) m (c - k)) := by
  intro a' n' c' e hc'
  injection e with e1 e2 e3; subst e1; subst e3
  have hlen : ((rows.drop k).take m).length = m := by simp; omega
  rw [hlen] at hc' ⊢
  have hbd : k + bnd fz (c - k) m ≤ bnd fz c rows.length := by unfold bnd at hc' ⊢; split at hc' <;> rename_i hm <;> simp only [hm, if_true, if_false] <;> omega
  have hck : ¬ c = k := by have := bnd_le (md := fz) hle; omega
  obtain ⟨b, off, arr, ee, rfl, h0, hb, hs, hlab⟩ := h a n c rfl (by omega)
  rw [if_neg hck]
  have hm : k * sz + bnd fz (c - k) m * sz ≤ bnd fz c rows.length * sz := by rw [← Nat.add_mul]; exact Nat.mul_le_mul_right _ hbd
  refine ⟨b, off + k * sz, arr, ee, by simp [Addr.add_mid], h0, hb, by omega, fun i o' hi ho => ?_⟩
  have := hlab (k + i) o' (by omega) ho
  rwa [show off + (k + i) * sz + o' = off + k * sz + i * sz + o' by rw [Nat.add_mul]; omega, ← Nat.add_assoc] at this

theorem take_row {α : Type} {row : List α} {off n o : Nat} {c : α} (h : ((row.drop off).take n)[o]? = some c) : row[off + o]? = some c ∧ o < n := by
  rw [List.getElem?_take] at h
  split at h
  · rw [List.getElem?_drop] at h; exact ⟨h, by assumption⟩
  · cases h

/-- A cell read through a pointer to an element. -/
theorem ldC_rel (h : Rel N w0 g0 ar S tm w g) {pl : Option (Nat × Nat × Path × Nat × Nat)} {ks : List Key} {j b k : Nat} {arr : Array Value} {e : TypeId} {fr : Nat × Nat} (hb : w.heap[b]? = some (.cells arr e fr)) {t : T}
    (hs : ShR (LP ks) g w t (arr.getD (k + j) undef)) (hpl : ∀ r o p i oo, pl = some (r, o, p, i, oo) → (r, o) ∈ ks ∧ fr = (0, 0) ∧ g b (k + j) = some (r, o, p ++ [(i, oo + j)])) (d o' : Nat) :
    ClR S.k g w d o' (ldC S.get pl ks j t) (arr.getD (k + j) undef) := by
  cases t with
  | lit v => generalize arr.getD (k + j) undef = x at hs; cases hs with | lit _ h1 => exact .lit _ _ h1
  | bad => generalize arr.getD (k + j) undef = x at hs; cases hs with | bad _ h1 => exact .bad _ _ h1
  | sl fz sz rows =>
    refine ⟨hs.hd, fun hv => ⟨hs, fun l lo e => ?_⟩⟩
    cases pl with
    | none => simp at e
    | some q =>
      obtain ⟨r, o, p, i, oo⟩ := q
      simp only at e
      split at e
      · rename_i md2 sz2 rows2 hnd
        split at e
        · rename_i hsz2
          obtain ⟨hmd, rfl, rfl, hlen2⟩ := hsz2
          injection e with e; injection e with e1 e2; subst e1; subst e2
          obtain ⟨q1, rfl, q3⟩ := hpl r o p i oo rfl
          refine ⟨q1, ?_⟩
          simp only [Option.bind_eq_some_iff] at hnd
          obtain ⟨t0, ht0, hnd⟩ := hnd
          obtain ⟨x, k1, _⟩ := VarR.node (h.vars r) ht0
          obtain ⟨b', k', arr', e', z1, z2, z3, z4⟩ := TR.zipAt _ [] t0 _ x k1 hnd (by simp)
          rw [List.nil_append] at z3 z4
          obtain ⟨rfl, rfl⟩ := h.inj _ _ _ _ _ q3 z3
          rw [hb] at z1; injection z1 with z1; injection z1 with z1 _ _; subst z1
          have := z4.pl hmd
          intro a n c e hc
          rw [← hlen2] at hc ⊢
          exact this a n c e hc
        · cases e
      · cases e
theorem ldRow_get {f : Nat → A} {pl : Option (Nat × Nat × Path × Nat × Nat)} {ks : List Key} : ∀ (row : Row) (b j : Nat), (ldRow f pl ks b row)[j]? = (row[j]?).map (ldC f pl ks (b + j)) := by
  intro row
  induction row with
  | nil => intro b j; simp [ldRow]
  | cons c l ih =>
    intro b j
    cases j with
    | zero => simp [ldRow]
    | succ j => simp only [ldRow, List.getElem?_cons_succ, ih]; rw [show b + 1 + j = b + (j + 1) by omega]
theorem ldRow_len {f : Nat → A} {pl : Option (Nat × Nat × Path × Nat × Nat)} {ks : List Key} (row : Row) (b : Nat) : (ldRow f pl ks b row).length = row.length := by
  induction row generalizing b with
  | nil => rfl
  | cons c l ih => simp [ldRow, ih]
theorem ldRow_plain {f : Nat → A} {pl : Option (Nat × Nat × Path × Nat × Nat)} {ks : List Key} (row : Row) (b : Nat) : plainRow (ldRow f pl ks b row) := by
  intro c hc
  obtain ⟨j, hj, rfl⟩ := List.getElem_of_mem hc
  have := ldRow_get (f := f) (pl := pl) (ks := ks) row b j
  rw [List.getElem?_eq_getElem hj] at this
  have := this.symm
  simp only [Option.map_eq_some_iff] at this
  obtain ⟨t, _, h⟩ := this
  rw [← h]
  cases t <;> rfl
end Go.Eng

namespace Go.Eng
variable {P : Program} {N : Nat} {w0 : World} {g0 : Ghost} {ar tm : Array Value} {S : St} {w w' : World} {g g' : Ghost} {K : List Key}

/-- The one cell of a slice that an operand holds. -/
theorem vrow_one (h : Rel N w0 g0 ar S tm w g) {x : Opd} {c : Cl} (he : vrow x S.get = some (false, [c])) : (∀ d b, ClR S.k g w d b c (x.val tm)) ∧ ownC c = false :=
  ⟨fun d b => (vrow_rel h he d b).1, (vrow_rel h he 0 0).2 c (by simp)⟩

theorem run_b2s {src e dst : TypeId} (hs : P.underlying src = some (.slice e)) (he : P.underlying e = some (.int .u8)) (hd : P.underlying dst = some .string) {L : Option Lab → Prop} {fz : Md} {rows : List Row} {v : Value}
    (h : ShR L g w (.sl fz 1 rows) v) (hok : rows.all rowBOk = true) : (convert src dst v).run P w = .ok (.string ⟨(rows.map rowB).toArray⟩) w := by
  cases h with
  | emp _ _ a cap =>
    cases a with
    | none => exact run_convert_bytes_nil w src e hs he 0 cap dst hd
    | some a =>
      have := run_convert_bytes_string (P := P) w src dst e (some a) 0 cap hs he hd
      rw [this]
      have hl : (loadCells a 0).run P w = .ok #[] w := by
        have := run_loadCells_list (P := P) w a [] (by simp)
        simpa using this
      have := run_bytesToString (P := P) w a 0 cap [] (by simpa using hl)
      rw [this]
      rfl
  | sl _ _ b off cap _ arr e' fr hb hl hg hsz hn hle hc =>
    have hbyte : ∀ r : Row, rowBOk r = true → ∃ n, r = [.lit (.int .u8 n)] := by
      intro r hr
      unfold rowBOk at hr
      split at hr
      · exact ⟨_, rfl⟩
      · cases hr
    let nOf : Row → Int := fun r => match r with | [.lit (.int .u8 n)] => n | _ => 0
    have := run_convert_bytes_arg (P := P) w src e hs he b off rows.length cap (rows.map nOf) (by simp) (fun i hi => by
      have hr := List.all_eq_true.1 hok _ (List.getElem_mem hi)
      obtain ⟨n, hr⟩ := hbyte _ hr
      have hg2 : get2 rows i 0 = some (.lit (.int .u8 n)) := by unfold get2; rw [List.getElem?_eq_getElem hi, hr]; rfl
      have hcc := hc i 0 _ hg2
      have hv : arr.getD (off + i * 1 + 0) undef = .int .u8 n := by
        generalize arr.getD (off + i * 1 + 0) undef = x at hcc
        cases hcc; rfl
      refine cell_eq.2 ⟨arr, e', fr, hb, ?_⟩
      have hlt : off + i < arr.size := by omega
      rw [Array.getD_eq_getD_getElem?, show off + i * 1 + 0 = off + i by omega, Array.getElem?_eq_getElem hlt] at hv
      rw [Array.getElem?_eq_getElem hlt]
      simp only [Option.getD_some] at hv
      rw [hv, List.getD_eq_getElem?_getD, List.getElem?_map, List.getElem?_eq_getElem hi, hr]
      rfl) dst hd
    rw [this]
    congr 2
    unfold strOfNums
    congr 1
    rw [List.map_map]
    congr 1
    refine List.map_congr_left fun r hr => ?_
    obtain ⟨n, rfl⟩ := hbyte _ (List.all_eq_true.1 hok _ hr)
    rfl

set_option maxHeartbeats 1000000 in
theorem POp.sound {o : Oper} {x : POp} {a : Act} (hfit : POp.fit P o.op x = true) (h : Rel N w0 g0 ar S a.tmps w g) {d : Nat} (hd : d < N) {cnd : Prop} {r : A} (he : pev S.k S.get x = some (cnd, r)) (hcond : cnd) :
    ∃ v, (execOp a.eval o).run P w = .ok (.value v) w ∧ VarR S.k g w (a.tmps.setIfInBounds d v) ar d r ∧ ∀ o, ownAt r o = false := by
  have hdt : d < a.tmps.size := by rw [h.size]; exact hd
  unfold POp.fit at hfit
  split at hfit
  -- move
  · rename_i x y ho
    refine ⟨y.val a.tmps, by simp only [execOp, ho, opdB_eval hfit a]; rfl, ?_⟩
    simp only [pev] at he; simp only [Option.some.injEq, Prod.mk.injEq] at he; obtain ⟨rfl, rfl⟩ := he
    exact mvX_rel h y hd
  -- nilCheck
  · rename_i x y ho
    cases y with
    | k c => simp [pev, Opd.ev] at he
    | z c => simp [pev, Opd.ev] at he
    | t s =>
      have hs := h.vars s
      simp only [pev, Opd.ev] at he
      split at he <;> simp only [Option.some.injEq, Prod.mk.injEq, reduceCtorEq] at he <;> obtain ⟨rfl, rfl⟩ := he
      · rename_i r oo hr
        rw [hr] at hs
        obtain ⟨b, k, h1, h2⟩ := hs
        refine ⟨.pointer (some ⟨b, k, none⟩), ?_, ⟨b, k, getD_set_self hdt, h2⟩, fun _ => rfl⟩
        simp only [execOp, ho, opdB_eval hfit a, Opd.val, h1]; rfl
      · rename_i pl ks row hr
        rw [hr] at hs
        obtain ⟨b, k, h1, h2⟩ := hs
        refine ⟨.pointer (some ⟨b, k, none⟩), ?_, ⟨b, k, getD_set_self hdt, h2⟩, fun _ => rfl⟩
        simp only [execOp, ho, opdB_eval hfit a, Opd.val, h1]; rfl
  -- pick
  · rename_i c x y c' x' y' ho
    simp only [Bool.and_eq_true] at hfit
    obtain ⟨⟨h1, h2⟩, h3⟩ := hfit
    simp only [pev] at he
    split at he
    · rename_i b hb
      simp only [Option.some.injEq, Prod.mk.injEq] at he; obtain ⟨rfl, rfl⟩ := he
      have hc := lit1_val h hb
      refine ⟨if b then x'.val a.tmps else y'.val a.tmps, ?_, ?_⟩
      · simp only [execOp, ho, opdB_eval h1 a, opdB_eval h2 a, opdB_eval h3 a, hc, asBool]
        cases b <;> rfl
      · cases b
        · exact mvA_rel h y' hd
        · exact mvA_rel h x' hd
    · cases he
  -- binOp
  · rename_i op _ x y _ op' x' y' ho
    simp only [Bool.and_eq_true, beq_iff_eq] at hfit
    obtain ⟨⟨rfl, h2⟩, h3⟩ := hfit
    simp only [pev] at he
    split at he
    · rename_i u v hu hv
      simp only [Option.map_eq_some_iff, Prod.mk.injEq] at he
      obtain ⟨⟨c', r'⟩, hr, rfl, rfl⟩ := he
      refine ⟨r', ?_, lit_put h hd (binV_one hr)⟩
      simp only [execOp, ho, opdB_eval h2 a, opdB_eval h3 a, lit1_val h hu, lit1_val h hv]
      exact run_value (binV_run hr hcond _ _ _ w)
    · cases he
  -- binOp at bool
  · rename_i op t x y _ neg x' y' ho
    simp only [Bool.and_eq_true, beq_iff_eq] at hfit
    obtain ⟨⟨⟨rfl, h2⟩, h3⟩, h4⟩ := hfit
    simp only [pev] at he
    split at he
    · rename_i u v hu hv
      simp only [Option.some.injEq, Prod.mk.injEq] at he; obtain ⟨rfl, rfl⟩ := he
      refine ⟨.bool (if neg then u != v else u == v), ?_, lit_put h hd rfl⟩
      simp only [execOp, ho, opdB_eval h2 a, opdB_eval h3 a, lit1_val h hu, lit1_val h hv]
      split at h4
      · rename_i hun
        refine run_value ?_
        rw [eqGuard_plain rfl]
        have heq : (Op.equal t (.bool u) (.bool v)).run P w = .ok (u == v) w := by
          unfold Op.equal Op.maxDepth Op.equalIn
          rw [run_seq _ _ _ (run_underlying hun w)]; rfl
        cases neg with
        | true =>
          simp only [if_true, binOp, pure_bind]
          first
            | (rw [run_seq _ _ _ heq]; cases u <;> cases v <;> rfl)
            | (show (_ >>= _ : Sem Value).run P w = _; rw [run_seq _ _ _ heq]; cases u <;> cases v <;> rfl)
        | false =>
          show ((Op.equal t (.bool u) (.bool v)) >>= fun z => pure (Value.bool z) : Sem Value).run P w = _
          rw [run_seq _ _ _ heq]; rfl
      · cases h4
    · cases he
  -- unOp
  · rename_i op _ x op' x' ho
    simp only [Bool.and_eq_true, beq_iff_eq] at hfit
    obtain ⟨rfl, h2⟩ := hfit
    simp only [pev] at he
    split at he
    · rename_i u hu
      simp only [Option.map_eq_some_iff, Prod.mk.injEq] at he
      obtain ⟨r', hr, rfl, rfl⟩ := he
      refine ⟨r', ?_, lit_put h hd (unV_one hr)⟩
      simp only [execOp, ho, opdB_eval h2 a, lit1_val h hu]
      exact run_value (unV_run hr w)
    · cases he
  -- len
  · rename_i c str x' ho
    obtain ⟨cal, args, tys⟩ := c
    split at hfit
    · rename_i x t hc hx ht
      obtain rfl : cal = .builtin .len := hc
      obtain rfl : args = #[x] := by cases args; simpa using hx
      obtain rfl : tys = #[t] := by cases tys; simpa using ht
      simp only [Bool.and_eq_true] at hfit
      obtain ⟨h1, h2⟩ := hfit
      have hb := run_builtin (ρ := a.eval) ho
      rw [map_one, opdB_eval h1 a] at hb
      have hrun : ∀ v, (Builtin.len_ #[t] o.type #[x'.val a.tmps]).run P w = .ok v w → (execOp a.eval o).run P w = .ok (.value v) w := by
        intro v hv
        rw [hb]
        exact run_value hv
      cases str with
      | true =>
        simp only [pev] at he
        split at he
        · rename_i s hs
          simp only [Option.some.injEq, Prod.mk.injEq] at he; obtain ⟨rfl, rfl⟩ := he
          refine ⟨.int .i64 s.size, hrun _ ?_, lit_put h hd rfl⟩
          rw [lit1_val h hs]
          split at h2
          · rename_i hu; exact run_len_string _ t _ s hu
          · cases h2
          · cases h2
        · cases he
      | false =>
        simp only [pev] at he
        split at he
        · rename_i cc hr
          split at he
          · rename_i fz sz rows htree
            simp only [Option.some.injEq, Prod.mk.injEq] at he; obtain ⟨rfl, rfl⟩ := he
            have hcl := ((vrow_one h hr).1 0 0).hd
            rw [htree] at hcl
            obtain ⟨A, c, hv, _, _⟩ := hcl
            refine ⟨.int .i64 rows.length, hrun _ ?_, lit_put h hd rfl⟩
            rw [hv]
            split at h2
            · cases h2
            · rename_i e hu; simp [Builtin.len_, run_underlying hu]; rfl
            · cases h2
          · cases he
        · cases he
    · cases hfit
  -- slice
  · rename_i t x lo hi x' lo' hi' sz ho
    simp only [Bool.and_eq_true] at hfit
    obtain ⟨⟨⟨h1, h2⟩, h3⟩, h4⟩ := hfit
    have hrun : ∀ v, (Instr.slice t (x'.val a.tmps) (lo'.map (Opd.val a.tmps)) (hi'.map (Opd.val a.tmps)) none).run P w = .ok v w → (∀ n e, P.underlying t ≠ some (.array n e)) →
        (P.underlying t).isSome → (execOp a.eval o).run P w = .ok (.value v) w := by
      intro v hv hna hsome
      have e : execOp a.eval o = (do pure (Next.value (← Instr.sliceAt t (a.eval x) (lo.map a.eval) (hi.map a.eval) none))) := by simp only [execOp, ho]; rfl
      rw [e, opdB_eval h1 a, optB_eval h2 a, optB_eval h3 a]
      refine run_value ?_
      obtain ⟨td, hu⟩ := Option.isSome_iff_exists.1 hsome
      unfold Instr.sliceAt
      rw [run_seq _ _ _ (run_underlying hu w)]
      cases td with
      | array n e => exact absurd hu (hna n e)
      | _ => exact hv
    split at h4
    · rename_i hu
      simp only [pev] at he
      split at he
      · rename_i s hs
        split at he
        · rename_i l hh hl hhi
          simp only [Option.some.injEq, Prod.mk.injEq] at he; obtain ⟨rfl, rfl⟩ := he; have hc := hcond
          refine ⟨.string (s.extract l.toNat hh.toNat), hrun _ ?_ (by simp [hu]) (by simp [hu]), lit_put h hd rfl⟩
          rw [lit1_val h hs]
          unfold Instr.slice
          rw [run_seq _ _ _ (run_underlying hu w)]
          simp only [Option.isSome_none, Bool.false_eq_true, if_false]
          have := run_bounds (P := P) (isS := false) (cap := s.size) h hl hhi hc.1 hc.2.1 hc.2.2 (Nat.le_refl _)
          first
            | (rw [run_seq _ _ _ this]; rfl)
            | (show (_ >>= _ : Sem Value).run P w = _; rw [run_seq _ _ _ this]; rfl)
        · cases he
      · cases he
    · rename_i e n hu
      simp only [beq_iff_eq] at h4
      simp only [pev] at he
      split at he
      · rename_i cc hr
        split at he
        · rename_i fz sz' rows htree
          split at he
          · rename_i l hh hl hhi
            split at he
            · rename_i hsz
              subst hsz
              have hc3 : 0 ≤ l ∧ l ≤ hh ∧ hh ≤ rows.length := by
                cases cc <;> (simp only [Option.some.injEq, Prod.mk.injEq] at he; rw [← he.1] at hcond; exact hcond)
              obtain ⟨hc1, hc2, hc3⟩ := hc3
              obtain ⟨hcl, hpl⟩ := vrow_one h hr
              have hhd := (hcl 0 0).hd
              rw [htree] at hhd
              obtain ⟨A, c, hv, hle, _⟩ := hhd
              have hb := run_bounds (P := P) (isS := true) (cap := c) h hl hhi hc1 hc2 hc3 hle
              have hrunv : (execOp a.eval o).run P w = .ok (.value (.slice (if c = l.toNat then A else A.map (·.add (l.toNat * sz'))) (hh.toNat - l.toNat) (c - l.toNat))) w := by
                refine hrun _ ?_ (by simp [hu]) (by simp [hu])
                rw [hv]
                unfold Instr.slice
                rw [run_seq _ _ _ (run_underlying hu w)]
                simp only []
                rw [run_seq _ _ _ hb]
                rw [run_seq _ _ _ (run_sizeOf h4 w)]
                rfl
              have hlm : l.toNat + (hh.toNat - l.toNat) ≤ rows.length := by omega
              rw [hv] at hcl
              cases cc with
              | vw pl ks t =>
                simp only [Cl.tree] at htree; subst htree
                simp only [Option.some.injEq, Prod.mk.injEq] at he; obtain ⟨rfl, rfl⟩ := he
                refine ⟨_, hrunv, val_put h hd ?_ (by intro c hc; simp at hc; subst hc; rfl)⟩
                obtain ⟨q1, q2⟩ := hcl d 0
                refine ⟨q1.cut fz hlm, fun hvd => ⟨(q2 hvd).1.cut fz hlm, fun l' lo' e => ?_⟩⟩
                cases pl with
                | none => simp at e
                | some q =>
                  simp only [Option.map_some, Option.some.injEq, Prod.mk.injEq] at e
                  obtain ⟨rfl, rfl⟩ := e
                  obtain ⟨m1, m2⟩ := (q2 hvd).2 q.1 q.2 rfl
                  exact ⟨m1, m2.cut hle hlm⟩
              | ow t =>
                simp only [Cl.tree] at htree; subst htree
                simp only [Option.some.injEq, Prod.mk.injEq] at he; obtain ⟨rfl, rfl⟩ := he
                cases fz with
                | ow => simp [ownC] at hpl
                | el => simp [ownC] at hpl
                | fro =>
                  refine ⟨_, hrunv, val_put h hd ?_ (by intro c hc; simp at hc; subst hc; rfl)⟩
                  exact .fro _ _ _ _ ((TR.frozen (hcl d 0)).cut .fro hlm)
            · cases he
          · cases he
        · cases he
      · cases he
    · cases h4
  -- index
  · rename_i t x i x' i' ho
    simp only [Bool.and_eq_true] at hfit
    obtain ⟨⟨h1, h2⟩, h3⟩ := hfit
    split at h3
    · rename_i hu
      simp only [pev] at he
      split at he
      · rename_i s n hs hi
        simp only [Option.some.injEq, Prod.mk.injEq] at he; obtain ⟨rfl, rfl⟩ := he; have hc := hcond
        obtain ⟨k, hk⟩ := intA_val h hi
        refine ⟨.int .u8 (strAt s n.toNat), ?_, lit_put h hd rfl⟩
        simp only [execOp, ho, opdB_eval h1 a, opdB_eval h2 a, lit1_val h hs, hk]
        refine run_value ?_
        have hlt : n.toNat < s.size := by omega
        unfold Instr.index
        rw [run_seq (a := (k, n)) (w' := w) _ _ _ rfl]
        simp only []
        rw [run_seq _ _ _ (run_underlying hu w)]
        simp only [hc.1, if_true, ByteArray.get?_eq s _ hlt]
        have hlt2 : n.toNat < s.data.size := hlt
        have hst : strAt s n.toNat = (s[n.toNat]).toNat := by
          unfold strAt
          rw [Array.getElem?_eq_getElem hlt2]; rfl
        rw [hst]; rfl
      · cases he
    · cases h3
  -- field
  · rename_i t x fi x' off n agg ho
    simp only [Bool.and_eq_true] at hfit
    obtain ⟨h1, h2⟩ := hfit
    split at h2
    · rename_i fs hu
      split at h2
      · rename_i fd hfd
        simp only [Bool.and_eq_true, beq_iff_eq] at h2
        obtain ⟨⟨h3, h4⟩, h5⟩ := h2
        subst h3
        simp only [pev] at he
        split at he
        · rename_i row hr
          obtain ⟨rfl, rfl, hag⟩ := oneOr_rel he; have hc := hcond
          obtain ⟨⟨arr, hv, hsz, hrow⟩, hpl⟩ := vrow_rel h hr d 0
          have hlen : ((row.drop fd.offset).take n).length = n := by simp; omega
          refine ⟨if agg then .agg (arr.extract fd.offset (fd.offset + n)) else arr.getD fd.offset undef, ?_, val_put h hd ?_ fun c hcm => hpl c (List.mem_of_mem_drop (List.mem_of_mem_take hcm))⟩
          · simp only [execOp, ho, opdB_eval h1 a, hv]
            refine run_value ?_
            unfold Instr.field
            rw [run_seq _ _ _ (run_underlying hu w)]
            simp only [hfd, asAgg]
            rw [run_seq (a := arr) (w' := w) _ _ _ rfl]
            unfold part
            rw [run_seq _ _ _ (run_isAgg h5 w)]
            cases agg with
            | true => simp only [if_true]; rw [run_seq _ _ _ (run_sizeOf h4 w)]; rfl
            | false =>
              have hn : n = 1 := by rw [← hlen]; exact hag rfl
              simp only [Bool.false_eq_true, if_false]
              rw [Array.getElem?_eq_getElem (show fd.offset < arr.size by omega)]
              simp [Array.getD_eq_getD_getElem?, Array.getElem?_eq_getElem (show fd.offset < arr.size by omega)]
          · have hany : ∀ o c, ((row.drop fd.offset).take n)[o]? = some c → ∀ r' o', ClR S.k g w r' o' c (arr.getD (fd.offset + o) undef) := fun o c hc r' o' => by
              obtain ⟨q1, q2⟩ := take_row hc
              have hcl := hrow _ c q1
              have hno := hpl c (List.mem_of_getElem? q1)
              cases c with
              | vw pl ks t => exact hcl
              | ow t => exact TR.elsewhere hcl (Step.refl (fun _ _ => False) w) (fun _ _ _ h => ⟨fun h => h, h⟩) hno
            cases agg with
            | true =>
              refine ⟨_, rfl, by simp; omega, fun o' c hgc => ?_⟩
              have hlt := (take_row hgc).2
              have := hany o' c hgc d (0 + o')
              rwa [show (arr.extract fd.offset (fd.offset + n)).getD o' undef = arr.getD (fd.offset + o') undef by
                simp only [Array.getD_eq_getD_getElem?, Array.getElem?_extract]
                rw [if_pos (by omega)]]
            | false =>
              have hn : n = 1 := by rw [← hlen]; exact hag rfl
              subst hn
              have hlt : fd.offset < row.length := by omega
              have e : (row.drop fd.offset).take 1 = [row[fd.offset]] := by
                rw [List.drop_eq_getElem_cons hlt]; rfl
              rw [e]
              exact hany 0 row[fd.offset] (by rw [e]; rfl) d 0
        · cases he
      · cases h2
    · cases h2
  -- fieldAddr
  · rename_i t x fi x' root off ho
    simp only [Bool.and_eq_true] at hfit
    obtain ⟨h1, h2⟩ := hfit
    split at h2
    · rename_i fs hu
      split at h2
      · rename_i fd hfd
        simp only [Bool.and_eq_true, beq_iff_eq] at h2
        obtain ⟨rfl, h4⟩ := h2
        have hrun : ∀ b k, x'.val a.tmps = .pointer (some ⟨b, k, none⟩) → (execOp a.eval o).run P w = .ok (.value (.pointer (some ⟨b, k + fd.offset, none⟩))) w := by
          intro b k hv
          simp only [execOp, ho, opdB_eval h1 a, hv]
          refine run_value ?_
          unfold Instr.fieldAt
          rw [run_seq _ _ _ (run_underlying hu w)]
          simp only [hfd]
          rw [run_seq (a := (⟨b, k, none⟩ : Addr)) (w' := w) _ _ _ rfl]
          split at h4
          · rename_i m hm
            rw [run_seq _ _ _ (run_fieldPlace hm _ w), Addr.add_mid]; rfl
          · cases h4
        cases x' with
        | k c => simp [pev, Opd.ev] at he
        | z c => simp [pev, Opd.ev] at he
        | t s =>
          have hs := h.vars s
          simp only [pev, Opd.ev] at he
          split at he
          · rename_i r oo hptr
            rw [hptr] at hs
            obtain ⟨b, k, hv, hgk⟩ := hs
            split at he
            · rename_i row hroot
              simp only [Option.some.injEq, Prod.mk.injEq] at he; obtain ⟨rfl, rfl⟩ := he; have hc := hcond
              have hr := h.vars r
              rw [hroot] at hr
              obtain ⟨b', k0, arr, e, hb, hsz, hcell⟩ := hr
              obtain ⟨g1, _⟩ := hcell oo _ (List.getElem?_eq_getElem (show oo < row.length by omega))
              obtain ⟨g2, _⟩ := hcell (oo + fd.offset) _ (List.getElem?_eq_getElem hc)
              obtain ⟨e1, e2⟩ := h.inj _ _ _ _ _ hgk g1
              subst e1
              refine ⟨_, hrun b k hv, ⟨b, k + fd.offset, getD_set_self hdt, ?_⟩, fun _ => rfl⟩
              rw [show k + fd.offset = k0 + (oo + fd.offset) by omega]; exact g2
            · cases he
          · rename_i pl ks row hptr
            rw [hptr] at hs
            obtain ⟨b, k, hv, hc⟩ := hs
            simp only [Option.some.injEq, Prod.mk.injEq] at he; obtain ⟨rfl, rfl⟩ := he; have hlt := hcond
            refine ⟨_, hrun b k hv, ?_, fun _ => rfl⟩
            simp only [VarR, getD_set_self hdt]
            refine ⟨b, k + fd.offset, rfl, fun hvd => ?_⟩
            obtain ⟨arr, e, fr, q1, q2, q3, q4, q5⟩ := hc hvd
            refine ⟨arr, e, fr, q1, by simp; omega, fun j hj => ?_, fun j c hgc => ?_, fun r o p i oo he => ?_⟩
            · simp at hj; rw [Nat.add_assoc]; exact q3 _ (by omega)
            · rw [List.getElem?_drop] at hgc; rw [Nat.add_assoc]; exact q4 _ _ hgc
            · cases pl with
              | none => simp at he
              | some q =>
                obtain ⟨r', o', p', i', oo'⟩ := q
                simp only [Option.map_some, Option.some.injEq, Prod.mk.injEq] at he
                obtain ⟨rfl, rfl, rfl, rfl, rfl⟩ := he
                obtain ⟨m1, m2, m3⟩ := q5 _ _ _ _ _ rfl
                refine ⟨m1, m2, fun j hj => ?_⟩
                simp at hj
                have := m3 (fd.offset + j) (by omega)
                rwa [← Nat.add_assoc, ← Nat.add_assoc] at this
          · cases he
      · cases h2
    · cases h2
  -- indexAddr
  · rename_i t x i x' i' sz ho
    simp only [Bool.and_eq_true] at hfit
    obtain ⟨⟨h1, h2⟩, h3⟩ := hfit
    split at h3
    · rename_i e0 hu
      simp only [beq_iff_eq] at h3
      simp only [pev] at he
      split at he
      · rename_i cc n hr hi
        split at he
        · rename_i fz sz' rows htree
          split at he
          · rename_i hsz
            subst hsz
            have hc2 : 0 ≤ n ∧ n < rows.length := by
              cases cc <;> (simp only [Option.some.injEq, Prod.mk.injEq] at he; rw [← he.1] at hcond; exact hcond)
            obtain ⟨hc1, hc2⟩ := hc2
            obtain ⟨k, hk⟩ := intA_val h hi
            obtain ⟨hcl, hpl⟩ := vrow_one h hr
            have hhd := (hcl 0 0).hd
            rw [htree] at hhd
            obtain ⟨A, c, hv, hle, hn, hpos⟩ := hhd
            obtain ⟨b, off, rfl⟩ := hpos (by omega)
            have hlt : n.toNat < rows.length := by omega
            have hrunv : (execOp a.eval o).run P w = .ok (.value (.pointer (some ⟨b, off + n.toNat * sz', none⟩))) w := by
              simp only [execOp, ho, opdB_eval h1 a, opdB_eval h2 a, hv, hk]
              refine run_value ?_
              unfold Instr.indexAt
              rw [run_seq (a := (k, n)) (w' := w) _ _ _ rfl]
              simp only []
              have hif : (0 ≤ n ∧ n < ((rows.length : Nat) : Int)) := ⟨hc1, hc2⟩
              simp [hif, Sem.run_bind, run_underlying hu w, run_sizeOf h3 w, Addr.add_mid]
            -- what the pointer leads to
            have hel : ∀ (L : Option Lab → Prop) fz, ShR L g w (.sl fz sz' rows) (.slice (some ⟨b, off, none⟩) rows.length c) → ∃ arr e fr, w.heap[b]? = some (.cells arr e fr) ∧ (rows.getD n.toNat []).length = sz' ∧ off + n.toNat * sz' + sz' ≤ arr.size ∧
                (∀ j, j < sz' → L (g b (off + n.toNat * sz' + j))) ∧ ∀ j t, (rows.getD n.toNat [])[j]? = some t → ShR L g w t (arr.getD (off + n.toNat * sz' + j) undef) := by
              intro L fz hs
              generalize hz : rows.length = z at hs hlt
              cases hs with
              | emp => simp at hz; omega
              | sl _ _ _ _ _ _ arr e fr hb hl hg hsz _ _ hc =>
                have hlen : (rows.getD n.toNat []).length = sz' := by
                  rw [List.getD_eq_getElem?_getD, List.getElem?_eq_getElem hlt]; exact hl _ (List.getElem_mem _)
                have hm : n.toNat * sz' + sz' ≤ rows.length * sz' := by
                  have := Nat.mul_le_mul_right sz' (show n.toNat + 1 ≤ rows.length by omega)
                  rwa [Nat.add_mul, Nat.one_mul] at this
                refine ⟨arr, e, fr, hb, hlen, by omega, fun j hj => hg _ (by omega) (by omega), fun j t hgc => ?_⟩
                refine hc n.toNat j t ?_
                unfold get2
                rw [List.getD_eq_getElem?_getD, List.getElem?_eq_getElem hlt] at hgc
                rw [List.getElem?_eq_getElem hlt]; exact hgc
            cases cc with
            | vw pl ks t =>
              simp only [Cl.tree] at htree; subst htree
              simp only [Option.some.injEq, Prod.mk.injEq] at he; obtain ⟨rfl, rfl⟩ := he
              obtain ⟨_, q2⟩ := hcl d 0
              refine ⟨_, hrunv, ?_, fun _ => rfl⟩
              simp only [VarR, getD_set_self hdt]
              refine ⟨b, off + n.toNat * sz', rfl, fun hvd => ?_⟩
              rw [hv] at q2
              obtain ⟨arr, e, fr, m1, m2, m3, m4, m5⟩ := hel _ _ (q2 hvd).1
              refine ⟨arr, e, fr, m1, by omega, fun j hj => m4 j (by omega), fun j t hj => m5 j t hj, fun r o p i oo he => ?_⟩
              cases pl with
              | none => simp at he
              | some q =>
                obtain ⟨⟨r', o', p'⟩, lo⟩ := q
                simp only [Option.map_some, Option.some.injEq, Prod.mk.injEq] at he
                obtain ⟨rfl, rfl, rfl, rfl, rfl⟩ := he
                obtain ⟨a1, a2⟩ := (q2 hvd).2 _ _ rfl
                have hbd := bnd_ge (md := fz) hle
                obtain ⟨b', off', arr', e', a3, _, a4, a5, a6⟩ := a2 _ _ _ rfl (by omega)
                injection a3 with a3; injection a3 with a3 a7; subst a3; subst a7
                rw [m1] at a4; injection a4 with a4; injection a4 with _ _ a4
                refine ⟨a1, a4, fun j hj => ?_⟩
                have := a6 n.toNat j (by omega) (by omega)
                rw [Nat.zero_add]; exact this
            | ow t =>
              simp only [Cl.tree] at htree; subst htree
              simp only [Option.some.injEq, Prod.mk.injEq] at he; obtain ⟨rfl, rfl⟩ := he
              cases fz with
              | ow => simp [ownC] at hpl
              | el => simp [ownC] at hpl
              | fro =>
                refine ⟨_, hrunv, ?_, fun _ => rfl⟩
                simp only [VarR, getD_set_self hdt]
                refine ⟨b, off + n.toNat * sz', rfl, fun hvd => ?_⟩
                have hfz := hcl d 0
                rw [hv] at hfz
                have hs : ShR LF g w (.sl .fro sz' rows) (.slice (some ⟨b, off, none⟩) rows.length c) := TR.frozen hfz
                obtain ⟨arr, e, fr, m1, m2, m3, m4, m5⟩ := hel _ _ hs
                exact ⟨arr, e, fr, m1, by omega, fun j hj => .inl (m4 j (by omega)), fun j t hj => (m5 j t hj).mono fun l hl => .inl hl, by simp⟩
          · cases he
        · cases he
      · cases he
    · cases h3
  -- load
  · rename_i t x x' root n agg ho
    simp only [Bool.and_eq_true, beq_iff_eq, decide_eq_true_eq, Bool.or_eq_true] at hfit
    obtain ⟨⟨⟨⟨h1, h2⟩, h3⟩, h4⟩, h5⟩ := hfit
    have hrun : ∀ b k arr e fr, x'.val a.tmps = .pointer (some ⟨b, k, none⟩) → w.heap[b]? = some (.cells arr e fr) → k + n ≤ arr.size →
        (execOp a.eval o).run P w = .ok (.value (if agg then .agg (rowV arr k n) else arr.getD k undef)) w := by
      intro b k arr e fr hv hb hle
      simp only [execOp, ho, opdB_eval h1 a, hv]
      exact run_value (run_load_cells hb hle h2 h3 h4)
    have hval : ∀ (row : List Cl) (arr : Array Value) (k : Nat), row.length = n → (∀ j c, row[j]? = some c → ∀ r' o', ClR S.k g w r' o' c (arr.getD (k + j) undef)) → ∀ r' o', ValR S.k g w r' o' agg row (if agg then .agg (rowV arr k n) else arr.getD k undef) := by
      intro row arr k hlen hc r' o'
      cases agg with
      | true =>
        simp only [if_true]
        refine ⟨_, rfl, by rw [rowV_size]; exact hlen.symm, fun j c hj => ?_⟩
        rw [rowV_get _ _ _ _ (by have := (List.getElem?_eq_some_iff.1 hj).1; omega)]
        exact hc j c hj _ _
      | false =>
        have hn : n = 1 := by simpa using h4
        subst hn
        simp only [Bool.false_eq_true, if_false]
        match row, hlen, hc with
        | [c], _, hc => exact hc 0 c rfl _ _
    cases x' with
    | k c => simp [pev, Opd.ev] at he
    | z c => simp [pev, Opd.ev] at he
    | t s =>
      have hs := h.vars s
      simp only [pev, Opd.ev] at he
      split at he
      · rename_i r oo hptr
        rw [hptr] at hs
        obtain ⟨b, k, hv, hgk⟩ := hs
        split at he
        · rename_i row hroot
          obtain ⟨rfl, rfl, hag⟩ := oneOr_rel he; have hc := hcond
          have hr := h.vars r
          rw [hroot] at hr
          obtain ⟨b', k0, arr, e, hb, hsz, hcell⟩ := hr
          obtain ⟨g1, _⟩ := hcell oo _ (List.getElem?_eq_getElem (show oo < row.length by omega))
          obtain ⟨e1, e2⟩ := h.inj _ _ _ _ _ hgk g1
          subst e1
          refine ⟨_, hrun b k arr e _ hv hb (by omega), val_put h hd (hval _ arr k (by rw [vwRow_len]; simp; omega) (fun j c hj r' o' => ?_) d 0) (vwRow_plain _ _ _)⟩
          rw [vwRow_get] at hj
          simp only [Option.map_eq_some_iff] at hj
          obtain ⟨c0, hc0, rfl⟩ := hj
          have := (hcell _ c0 (take_row hc0).1).2
          rw [show k0 + (oo + j) = k + j by omega] at this
          exact this.view _ _
        · cases he
      · rename_i pl ks row hptr
        rw [hptr] at hs
        obtain ⟨b, k, hv, hc⟩ := hs
        obtain ⟨rfl, rfl, hag⟩ := oneOr_rel he
        obtain ⟨hkb, hle⟩ := hcond
        obtain ⟨arr, e, fr, q1, q2, q3, q4, q5⟩ := hc (keyB_vd hkb)
        refine ⟨_, hrun b k arr e _ hv q1 (by omega), val_put h hd (hval _ arr k (by rw [ldRow_len]; simp; omega) (fun j c hj r' o' => ?_) d 0) (ldRow_plain _ _)⟩
        rw [ldRow_get] at hj
        simp only [Option.map_eq_some_iff] at hj
        obtain ⟨t0, ht0, rfl⟩ := hj
        rw [List.getElem?_take] at ht0
        split at ht0
        · rename_i hjn
          rw [Nat.zero_add]
          exact ldC_rel h q1 (q4 j t0 ht0) (fun r o p i oo he => by
            obtain ⟨m1, m2, m3⟩ := q5 r o p i oo he
            exact ⟨m1, m2, m3 j (by omega)⟩) r' o'
        · cases ht0
      · cases he
  -- convert
  · rename_i src dst x k x' ho
    simp only [Bool.and_eq_true] at hfit
    obtain ⟨⟨h1, h2⟩, h3⟩ := hfit
    obtain ⟨ts, hts⟩ := Option.isSome_iff_exists.1 h3
    split at h2
    · rename_i k' hu
      simp only [beq_iff_eq] at h2; subst h2
      simp only [pev] at he
      split at he
      · rename_i k2 n hn
        simp only [Option.some.injEq, Prod.mk.injEq] at he; obtain ⟨rfl, rfl⟩ := he
        refine ⟨.int k (k.wrap n), ?_, lit_put h hd rfl⟩
        simp only [execOp, ho, opdB_eval h1 a, lit1_val h hn]
        refine run_value ?_
        unfold convert
        rw [run_seq _ _ _ (run_underlying hts w), run_seq _ _ _ (run_underlying hu w)]
        rfl
      · cases he
    · cases h2
  -- bytes to string
  · rename_i src dst x x' ho
    simp only [Bool.and_eq_true] at hfit
    obtain ⟨h1, h2⟩ := hfit
    split at h2
    · rename_i e hu1 hu2
      unfold isByteT at h2
      split at h2
      · rename_i hu3
        simp only [pev] at he
        split at he
        · rename_i cc hr
          split at he
          · rename_i fz sz rows htree
            simp only [Option.some.injEq, Prod.mk.injEq] at he; obtain ⟨rfl, rfl⟩ := he
            simp only [Bool.and_eq_true, beq_iff_eq] at hcond
            obtain ⟨⟨rfl, hok⟩, hval⟩ := hcond
            refine ⟨_, ?_, lit_put h hd rfl⟩
            simp only [execOp, ho, opdB_eval h1 a]
            refine run_value ?_
            obtain ⟨hcl, hpl⟩ := vrow_one h hr
            cases cc with
            | vw pl ks t =>
              simp only [Cl.tree] at htree; subst htree
              exact run_b2s hu2 hu3 hu1 ((hcl 0 0).2 (keyB_vd hval)).1 hok
            | ow t =>
              simp only [Cl.tree] at htree; subst htree
              exact run_b2s hu2 hu3 hu1 (TR.sh (hcl 0 0)) hok
          · cases he
        · cases he
      · cases h2
    · cases h2
  · cases hfit
end Go.Eng

namespace Go.Eng

/-- How an argument is handed over. -/
inductive Arg where
  | rd (x : Opd)
  | mv (x : Opd)
  | pt (x : Opd) (n : Nat)
  | rp (x : Opd) (n : Nat)
  | ln (x : Opd)

inductive EOp where
  | p (d : Nat) (x : POp)
  | asg (d : Nat) (x : Opd)
  | tk (d : Nat) (x : Opd)
  | box (d : Nat) (x : Opd)
  | alloc (d : Nat) (z : List Kc)
  | st (a : Opd) (x : Opd) (n : Nat)
  | bsl (d sz : Nat) (parts : List Opd)
  | build (d : Nat) (z : List Kc) (parts : List (Nat × Nat × Opd))
  | app (d : Nat) (x y : Opd) (sz bytes : Nat)
  | ext (d x m : Nat)
  | mks (d : Nat) (n m : Opd) (z : List Kc) (bytes : Nat)
  | call (d : Option Nat) (f : FuncId) (args : List Arg)
  | no (d : Option Nat)
  | bsv (d sz : Nat) (parts : List Opd)

def Cl.unow : Cl → Option T
  | .ow t => some t
  | .vw _ _ _ => none
def rowT : List Cl → Option Row
  | [] => some []
  | .ow t :: l => (rowT l).map (t :: ·)
  | .vw _ _ _ :: _ => none
/-- Cells that may be copied as they are. -/
def T.flat : T → Bool
  | .lit _ => true
  | _ => false
def flatRows (rows : List Row) : Bool := rows.all fun r => r.all T.flat

def keepAll : Option Lab → List Key → Bool := fun _ _ => true
def keepNone : Option Lab → List Key → Bool := fun _ _ => false
/-- A view is kept but where it is of the slot itself. -/
def keepBut (d : Nat) : Option Lab → List Key → Bool := fun _ ks => ks.all fun k => !(k.1 == d)
/-- A view is kept where nobody can say whose it is. -/
def keepFar : Option Lab → List Key → Bool := fun pl _ => pl.isNone

def splC {α : Type} (row : List α) (o : Nat) (cs : List α) : List α := row.take o ++ cs ++ row.drop (o + cs.length)
def setRow (rows : List Row) (i o : Nat) (cs : Row) : List Row := rows.modify i fun r => splC r o cs

def rowsOf : St → Nat → List Opd → Option (List Row × St)
  | S, _, [] => some ([], S)
  | S, m, x :: l => match rsv S keepNone x with
    | some (_, row, S1) => (match rowT row with
      | some r => (rowsOf S1 (m + 1) l).map fun q => (r :: q.1, q.2)
      | none => none)
    | none => none
def buildRow : St → List (Nat × Nat × Opd) → List Cl → Option (List Cl × St)
  | S, [], row => some (row, S)
  | S, (o, n, x) :: l, row => match rsv S keepAll x with
    | some (_, cs, S1) => if cs.length = n ∧ o + n ≤ row.length then buildRow S1 l (splC row o cs) else none
    | none => none

def clKs : Cl → List Key
  | .vw _ ks _ => ks
  | .ow _ => []
def rowKs (row : List Cl) : List Key := row.flatMap clKs
/-- Values that are looked at, as rows; what they lean on. -/
def viewsOf (f : Nat → A) : List Opd → Option (List Row × List Key)
  | [] => some ([], [])
  | x :: l => match vrow x f with
    | some (_, row) => (viewsOf f l).map fun q => (row.map Cl.tree :: q.1, rowKs row ++ q.2)
    | none => none
def kc (z : List Kc) : List Cl := z.map fun c => .ow c.t

/-- The operations that call nobody: under a condition, a new state. -/
def eev (S : St) : EOp → Option (Prop × St)
  | .p d x => (pev S.k S.get x).map fun r => (r.1, S.set d r.2)
  | .asg d x => match x.ev S.get with
    | .val _ _ => (rsv S (keepBut d) x).map fun r => (True, r.2.2.set d (.val r.1 r.2.1))
    | .any | .mem _ | .hid _ | .tup _ => none
    | _ => some (True, S.set d (mvA x S.get))
  | .tk d x => (rsv S keepFar x).map fun r => (True, r.2.2.set d (.val r.1 r.2.1))
  | .box d x => match rsv S keepAll x with
    | some (_, row, S1) => (match S1.get (10000 + d) with
      | .any => some (row ≠ [], (S1.put (10000 + d) (.mem row)).set d (.pr (10000 + d) 0))
      | _ => none)
    | none => none
  | .alloc d z => match S.get (10000 + d) with
    | .any => some (True, (S.put (10000 + d) (.mem (kc z))).set d (.pr (10000 + d) 0))
    | _ => none
  | .st a x n => match a.ev S.get with
    | .pr r o => (match rsv S keepFar x with
      | some (_, row, S1) => (match S1.get r with
        | .mem R => if r < 19000 then some (row.length = n ∧ o + n ≤ R.length, (S1.kl ((List.range' o n).map fun j => (r, j))).put r (.mem (splC R o row))) else none
        | _ => none)
      | none => none)
    | .pe (some (r, o, p, i, oo)) ks row0 => (match rsv S keepNone x with
      | some (_, row, S1) => (match rowT row, (treeAt (S1.get r) o) with
        | some ts, some t0 => (match ndT p t0 with
          | some (.sl md sz rows) => if r < 19000 ∧ md ≠ .fro then some (ts.length = n ∧ i < rows.length ∧ oo + n ≤ sz ∧ keyB S1.k ks = true ∧ n ≤ row0.length, (S1.put r (modAt (S1.get r) o (mdT p (.sl md sz (setRow rows i oo ts)) t0))).kl [(r, o)]) else none
          | _ => none)
        | _, _ => none)
      | none => none)
    | _ => none
  | .bsl d sz parts => (rowsOf S 0 parts).map fun q => (∀ r ∈ q.1, r.length = sz, q.2.set d (.val false [.ow (.sl .ow sz q.1)]))
  | .build d z parts => (buildRow S parts (kc z)).map fun q => (True, q.2.set d (.val true q.1))
  | .app d x y sz bytes => match rsv S keepNone x with
    | some (false, [.ow (.sl .ow sz1 rows)], S1) => (match vrow y S1.get with
      | some (false, [c]) => (match c.tree with
        | .sl fz sz2 rows2 => if flatRows rows2 then
              some (sz1 = sz ∧ sz2 = sz ∧ c.okB S1.k = true ∧ (rows.length + rows2.length) * bytes ≤ 140737488355328, S1.set d (.val false [.ow (.sl .ow sz (rows ++ rows2))]))
            else (match rsv S1 keepNone y with
              | some (false, [.ow (.sl .ow sz3 rows3)], S2) => some (sz1 = sz ∧ sz3 = sz ∧ (rows.length + rows3.length) * bytes ≤ 140737488355328, S2.set d (.val false [.ow (.sl .ow sz (rows ++ rows3))]))
              | _ => none)
        | _ => none)
      | _ => none)
    | _ => none
  | .ext d x m => match S.get x with
    | .tup rs => (match rs[m]? with
      | some (agg, row) => if x < 19000 then (rsvRow S keepAll x (1000 * m) row).map fun q => (True, q.2.set d (.val agg q.1)) else none
      | none => none)
    | _ => none
  | .mks d x y z bytes => match intA x S.get, intA y S.get with
    | some n, some m => some (0 ≤ n ∧ n ≤ m ∧ m * bytes ≤ 140737488355328, S.set d (.val false [.ow (.sl .ow z.length (List.replicate n.toNat (z.map Kc.t)))]))
    | _, _ => none
  | .call _ _ _ => none
  | .no _ => none
  | .bsv d sz parts => (viewsOf S.get parts).map fun q => (∀ r ∈ q.1, r.length = sz, S.set d (.val false [.vw none q.2 (.sl .ow sz q.1)]))

/-! ### The operation of the program is the one that is told -/
def partsB (places : List (Nat × Nat)) : List (Nat × Operand) → List (Nat × Nat × Opd) → Bool
  | [], [] => true
  | (i, x) :: l, (o, n, y) :: m => opdB x y && places[i]? == some (o, n) && partsB places l m
  | _, _ => false
def rowPartsB : Nat → List (Nat × Operand) → List Opd → Bool
  | _, [], [] => true
  | i, (j, x) :: l, y :: m => i == j && opdB x y && rowPartsB (i + 1) l m
  | _, _, _ => false
def Arg.opd : Arg → Opd
  | .rd x => x
  | .mv x => x
  | .pt x _ => x
  | .rp x _ => x
  | .ln x => x
def argsB : List Operand → List Arg → Bool
  | [], [] => true
  | x :: l, y :: m => opdB x y.opd && argsB l m
  | _, _ => false
def zeroB (P : Program) (t : TypeId) (z : List Kc) : Bool :=
  match P.info? t with
  | some i => (match i.zero with
    | some v => i.size == z.length && Kc.areB z v.cells.toList
    | none => false)
  | none => false

def EOp.fit (P : Program) (o : Oper) : EOp → Bool
  | .p d x => o.dst == some d && POp.fit P o.op x
  | .asg d x => o.dst == some d && (match o.op with | .assign y => opdB y x | .move y => opdB y x | _ => false)
  | .tk d x => o.dst == some d && (match o.op with | .assign y => opdB y x | .move y => opdB y x | _ => false)
  | .box d x => o.dst == some d && decide (d < 5000) && (match o.op with | .box _ y => opdB y x | _ => false)
  | .alloc d z => o.dst == some d && decide (d < 5000) && !z.isEmpty && (match o.op with | .alloc t => zeroB P t z | _ => false)
  | .st a x n => o.dst == none && decide (0 < n) && (match o.op with | .store t b y => opdB b a && opdB y x && szOf P t == some n | _ => false)
  | .bsl d sz parts => o.dst == some d && (match o.op with
    | .buildSlice t len ps => len == parts.length && rowPartsB 0 ps.toList parts && (match P.underlying t with
      | some (.slice e) => (match P.info? e with
        | some i => i.size == sz && decide (0 < sz) && decide (len * sz ≤ 16777216) && i.zero.isSome
        | none => false)
      | _ => false)
    | _ => false)
  | .bsv d sz parts => o.dst == some d && (match o.op with
    | .buildSlice t len ps => len == parts.length && rowPartsB 0 ps.toList parts && (match P.underlying t with
      | some (.slice e) => (match P.info? e with
        | some i => i.size == sz && decide (0 < sz) && decide (len * sz ≤ 16777216) && i.zero.isSome
        | none => false)
      | _ => false)
    | _ => false)
  | .no d => o.dst == d
  | .build d z parts => o.dst == some d && (match o.op with
    | .build t ps => zeroB P t z && (match P.underlying t with
      | some (.struct fs) => (match fs.toList.mapM (fun f => (P.info? f.type).map fun i => (f.offset, i.size)) with
        | some places => partsB places ps.toList parts
        | none => false)
      | _ => false)
    | _ => false)
  | .app d x y sz bytes => o.dst == some d && (match o.op with
    | .call c => (match c.callee, c.args.toList, c.argTypes.toList with
      | .builtin .append, [u, v], [t, t'] => t == t' && opdB u x && opdB v y && (match P.underlying t with
        | some (.slice e) => (match P.info? e with
          | some i => i.size == sz && i.bytes == bytes && decide (0 < sz) && decide (0 < bytes) && (match i.zero with | some z => z.cells.size == sz | none => false)
          | none => false)
        | _ => false)
      | _, _, _ => false)
    | _ => false)
  | .ext d x m => o.dst == some d && (match o.op with | .extract (.tmp y) k => y == x && k == m | _ => false)
  | .mks d x y z bytes => o.dst == some d && (match o.op with
    | .makeSlice t n c => opdB n x && opdB c y && (match P.underlying t with
      | some (.slice e) => (match P.info? e with
        | some i => i.bytes == bytes && decide (0 < bytes) && !z.isEmpty && zeroB P e z
        | none => false)
      | _ => false)
    | _ => false)
  | .call d f args => o.dst == d && (match d with | some d => decide (d < 5000) | none => true) && (match o.op with
    | .call c => (match c.callee with
      | .value (.func g) => g == f && argsB c.args.toList args && (match P.funcs[f]? with | some fn => fn.body.isSome && !(fn.name == "runtime.NumGoroutine") | none => false)
      | _ => false)
    | _ => false)
end Go.Eng

namespace Go.Eng
variable {P : Program} {N : Nat} {w0 : World} {g0 : Ghost} {ar tm : Array Value} {S S' : St} {w w' : World} {g g' : Ghost} {o : Oper} {a : Act} {c : Prop}

theorem Step.alloc {M : Nat → Nat → Prop} (w : World) (o : Obj) : Step M w (w.alloc o) :=
  ⟨rfl, rfl, rfl, by simp, fun b o' hb => by
    have hlt := (Array.getElem?_eq_some_iff.1 hb).1
    exact ⟨o', by rw [Go.RowKit.Below.heap_alloc _ _ _ hlt]; exact hb, .inl rfl⟩⟩
theorem Step.drew {M : Nat → Nat → Prop} (w : World) : Step M w w.drew :=
  ⟨rfl, rfl, rfl, Nat.le_refl _, fun b o hb => ⟨o, hb, .inl rfl⟩⟩

def arrSet (arr : Array Value) : Nat → List Value → Array Value
  | _, [] => arr
  | o, v :: r => arrSet (arr.setIfInBounds o v) (o + 1) r
theorem arrSet_size (vs : List Value) : ∀ (o : Nat) (arr : Array Value), (arrSet arr o vs).size = arr.size := by
  induction vs with
  | nil => intro o arr; rfl
  | cons v r ih => intro o arr; rw [arrSet, ih, Array.size_setIfInBounds]
theorem arrSet_out (vs : List Value) : ∀ (o : Nat) (arr : Array Value) (j : Nat), (j < o ∨ o + vs.length ≤ j) → (arrSet arr o vs)[j]? = arr[j]? := by
  induction vs with
  | nil => intro o arr j h; rfl
  | cons v r ih =>
    intro o arr j h
    simp only [List.length_cons] at h
    rw [arrSet, ih _ _ _ (by omega), Array.getElem?_setIfInBounds, if_neg (by omega)]
theorem arrSet_in (vs : List Value) : ∀ (o : Nat) (arr : Array Value) (j : Nat), o + vs.length ≤ arr.size → j < vs.length → (arrSet arr o vs)[o + j]? = vs[j]? := by
  induction vs with
  | nil => intro o arr j h hj; simp at hj
  | cons v r ih =>
    intro o arr j h hj
    simp only [List.length_cons] at h hj
    cases j with
    | zero =>
      rw [arrSet, arrSet_out _ _ _ _ (by omega)]
      simp only [Nat.add_zero]
      rw [Array.getElem?_setIfInBounds, if_pos rfl, if_pos (by omega)]; rfl
    | succ j =>
      rw [arrSet, show o + (j + 1) = o + 1 + j by omega, ih _ _ _ (by rw [Array.size_setIfInBounds]; omega) (by omega)]; rfl

theorem setCells_heap (b : Nat) (e : TypeId) (fr : Nat × Nat) (vs : List Value) : ∀ (o : Nat) (w : World) (arr : Array Value), w.heap[b]? = some (.cells arr e fr) →
    (w.setCells b o vs).heap[b]? = some (.cells (arrSet arr o vs) e fr) ∧ (∀ b', b' ≠ b → (w.setCells b o vs).heap[b']? = w.heap[b']?) ∧ (w.setCells b o vs).heap.size = w.heap.size ∧
      (w.setCells b o vs).os = w.os ∧ (w.setCells b o vs).tape = w.tape ∧ (w.setCells b o vs).output = w.output := by
  induction vs with
  | nil => intro o w arr h; exact ⟨h, fun _ _ => rfl, rfl, rfl, rfl, rfl⟩
  | cons v r ih =>
    intro o w arr h
    have h1 : (w.setCell ⟨b, o, none⟩ v).heap[b]? = some (.cells (arr.setIfInBounds o v) e fr) := by
      simp [World.setCell, Array.getElem?_modify, h]
    obtain ⟨k1, k2, k3, k4, k5, k6⟩ := ih (o + 1) _ _ h1
    refine ⟨k1, fun b' hb' => ?_, ?_, k4, k5, k6⟩
    · rw [World.setCells, k2 b' hb']
      simp only [World.setCell, Array.getElem?_modify]
      rw [if_neg (Ne.symm hb')]
    · rw [World.setCells, k3]; simp [World.setCell]

theorem Step.setCells {b o : Nat} {vs : List Value} {arr : Array Value} {e : TypeId} {fr : Nat × Nat} (hb : w.heap[b]? = some (.cells arr e fr)) :
    Step (fun b' k' => b' = b ∧ o ≤ k' ∧ k' < o + vs.length) w (w.setCells b o vs) := by
  obtain ⟨k1, k2, k3, k4, k5, k6⟩ := setCells_heap b e fr vs o w arr hb
  refine ⟨k4, k5, k6, by rw [k3]; exact Nat.le_refl _, fun b' o' hb' => ?_⟩
  by_cases he : b' = b
  · subst he
    rw [hb] at hb'; injection hb' with hb'; subst hb'
    refine ⟨_, k1, .inr ⟨arr, _, e, fr, rfl, rfl, (arrSet_size _ _ _).symm, fun k hk => (arrSet_out _ _ _ _ ?_).symm⟩⟩
    rcases Nat.lt_or_ge k o with h | h
    · exact .inl h
    · right; rcases Nat.lt_or_ge k (o + vs.length) with h2 | h2
      · exact absurd ⟨rfl, h, h2⟩ hk
      · exact h2
  · exact ⟨o', by rw [k2 b' he]; exact hb', .inl rfl⟩

theorem foldl_zip (off : Nat) : ∀ (l : List Value) (s : Nat) (cells : Array Value), (l.zipIdx s).foldl (fun cs (cj : Value × Nat) => cs.setIfInBounds (off + cj.2) cj.1) cells = arrSet cells (off + s) l := by
  intro l
  induction l with
  | nil => intro s cells; rfl
  | cons v l ih =>
    intro s cells
    simp only [List.zipIdx_cons, List.foldl_cons, arrSet]
    rw [ih]; rfl
theorem foldl_cells (off : Nat) (vs : Array Value) (cells : Array Value) : vs.zipIdx.foldl (fun cs (cj : Value × Nat) => cs.setIfInBounds (off + cj.2) cj.1) cells = arrSet cells off vs.toList := by
  rw [← Array.foldl_toList, Array.toList_zipIdx]
  exact foldl_zip off vs.toList 0 cells

theorem fill_cons {place : Nat → Option (Nat × Nat)} {cells : Array Value} {i off sz : Nat} {v : Value} {rest : List (Nat × Value)} (hp : place i = some (off, sz)) (hs : v.cells.size = sz) (hle : off + sz ≤ cells.size) :
    Instr.fill place cells ((i, v) :: rest) = Instr.fill place (arrSet cells off v.cells.toList) rest := by
  have hf := foldl_cells off v.cells cells
  rw [Instr.fill, hp]
  simp only [hs]
  rw [if_neg (by simp; omega)]
  exact congrArg (fun c => Instr.fill place c rest) hf


theorem ValR.vcells {K : List Key} {r base : Nat} {agg : Bool} {row : List Cl} {v : Value} (h : ValR K g w r base agg row v) : v.cells = cellsV agg v := by
  cases agg with
  | true => obtain ⟨arr, rfl, _⟩ := h; rfl
  | false =>
    match row, h with
    | [c], h =>
      have hone := ClR.one h
      cases v <;> first | rfl | simp [Value.oneCell'] at hone
theorem ValR.at {K : List Key} {r base : Nat} {agg : Bool} {row : List Cl} {v : Value} (h : ValR K g w r base agg row v) : v.cells.size = row.length ∧ ∀ o c, row[o]? = some c → ClR K g w r (base + o) c (v.cells.getD o undef) := by
  rw [h.vcells]; exact h.cells

/-- The operation runs, and the state behind it is S'. -/
def Runs (P : Program) (N : Nat) (w0 : World) (g0 : Ghost) (ar : Array Value) (o : Oper) (a : Act) (w : World) (S' : St) : Prop :=
  ∃ w' g', (∃ v, (execOp a.eval o).run P w = .ok (.value v) w' ∧ Rel N w0 g0 ar S' (a.put o.dst v).tmps w' g') ∨ ((execOp a.eval o).run P w = .ok .skip w' ∧ Rel N w0 g0 ar S' (a.put o.dst undef).tmps w' g')
theorem Runs.value {d : Nat} (hd : o.dst = some d) {v : Value} (h1 : (execOp a.eval o).run P w = .ok (.value v) w') (h2 : Rel N w0 g0 ar S' (a.tmps.setIfInBounds d v) w' g') : Runs P N w0 g0 ar o a w S' :=
  ⟨w', g', .inl ⟨v, h1, by rw [hd]; exact h2⟩⟩

theorem copyA_nomem (s : Nat) (x : A) (row : List Cl) : copyA s x ≠ .mem row := by cases x <;> simp [copyA]
theorem mvA_nomem (x : Opd) (f : Nat → A) (row : List Cl) : mvA x f ≠ .mem row := by
  cases x with
  | t s => exact copyA_nomem _ _ _
  | k c => simp [mvA]
  | z cs => simp [mvA]
theorem oneOr_nomem {c c' : Prop} {agg : Bool} {row : List Cl} {r : A} (he : oneOr c' agg row = some (c, r)) (row' : List Cl) : r ≠ .mem row' := by
  obtain ⟨_, rfl, _⟩ := oneOr_rel he; simp
theorem pev_nomem {K : List Key} {f : Nat → A} {x : POp} {c : Prop} {r : A} (h : pev K f x = some (c, r)) (row : List Cl) : r ≠ .mem row := by
  cases x with
  | mv x =>
    simp only [pev, Option.some.injEq, Prod.mk.injEq] at h
    rw [← h.2]
    unfold mvX
    split
    · split <;> simp
    · exact mvA_nomem _ _ _
  | nilc x => simp only [pev] at h; split at h <;> simp only [Option.some.injEq, Prod.mk.injEq, reduceCtorEq] at h <;> rw [← h.2] <;> simp
  | pick c x y =>
    simp only [pev] at h
    split at h
    · simp only [Option.some.injEq, Prod.mk.injEq] at h
      rw [← h.2]
      split
      · exact mvA_nomem _ _ _
      · exact mvA_nomem _ _ _
    · cases h
  | fld x off n agg => simp only [pev] at h; split at h; exact oneOr_nomem h row; cases h
  | ld x root n agg =>
    simp only [pev] at h
    split at h
    · split at h
      · exact oneOr_nomem h row
      · cases h
    · exact oneOr_nomem h row
    · cases h
  | len str x =>
    cases str <;> simp only [pev] at h
    all_goals repeat' split at h
    all_goals first | (simp only [Option.some.injEq, Prod.mk.injEq] at h; rw [← h.2]; simp) | (simp only [Option.map_eq_some_iff, Prod.mk.injEq] at h; obtain ⟨_, _, _, rfl⟩ := h; simp) | cases h
  | sli x lo hi sz =>
    cases sz <;> simp only [pev] at h
    all_goals repeat' split at h
    all_goals first | (simp only [Option.some.injEq, Prod.mk.injEq] at h; rw [← h.2]; simp) | (simp only [Option.map_eq_some_iff, Prod.mk.injEq] at h; obtain ⟨_, _, _, rfl⟩ := h; simp) | cases h
  | _ =>
    simp only [pev] at h
    repeat' split at h
    all_goals first | (simp only [Option.some.injEq, Prod.mk.injEq] at h; rw [← h.2]; simp) | (simp only [Option.map_eq_some_iff, Prod.mk.injEq] at h; obtain ⟨_, _, _, rfl⟩ := h; simp) | cases h

theorem p_sound {d : Nat} {x : POp} (hfit : EOp.fit P o (.p d x) = true) (hN : N ≤ 10000) (hd : d < N) (h : Rel N w0 g0 ar S a.tmps w g) (he : eev S (.p d x) = some (c, S')) (hc : c) : Runs P N w0 g0 ar o a w S' := by
  simp only [EOp.fit, Bool.and_eq_true, beq_iff_eq] at hfit
  obtain ⟨h1, h2⟩ := hfit
  simp only [eev, Option.map_eq_some_iff, Prod.mk.injEq] at he
  obtain ⟨⟨c', r⟩, hp, rfl, rfl⟩ := he
  obtain ⟨v, k1, k2, k3⟩ := POp.sound h2 h hd hp hc
  obtain ⟨g', q1, _⟩ := h.put hd (by omega) (pev_nomem hp) k3 k2
  exact .value h1 k1 q1

/-- A slot is given what an operand is. -/
theorem asg_run {md : Option Lab → List Key → Bool} {d : Nat} {x : Opd} {q : Bool × List Cl × St} (hN : N ≤ 10000) (hd : d < N) (h : Rel N w0 g0 ar S a.tmps w g) (he : rsv S md x = some q)
    (h1 : o.dst = some d) (hrun : (execOp a.eval o).run P w = .ok (.value (x.val a.tmps)) w) : Runs P N w0 g0 ar o a w (q.2.2.set d (.val q.1 q.2.1)) := by
  obtain ⟨agg, row, S1⟩ := q
  obtain ⟨g1, k1, k2, _⟩ := rsv_sound h he 0
  obtain ⟨g2, q1, _⟩ := k1.putRow hd (by omega) k2
  exact .value h1 hrun q1
theorem asg_op {d : Nat} {x : Opd} (h2 : (match o.op with | .assign y => opdB y x | .move y => opdB y x | _ => false) = true) : (execOp a.eval o).run P w = .ok (.value (x.val a.tmps)) w := by
  split at h2
  · rename_i y ho; simp only [execOp, ho, opdB_eval h2 a]; rfl
  · rename_i y ho; simp only [execOp, ho, opdB_eval h2 a]; rfl
  · cases h2
theorem asg_sound {d : Nat} {x : Opd} (hfit : EOp.fit P o (.asg d x) = true) (hN : N ≤ 10000) (hd : d < N) (h : Rel N w0 g0 ar S a.tmps w g) (he : eev S (.asg d x) = some (c, S')) (hc : c) : Runs P N w0 g0 ar o a w S' := by
  simp only [EOp.fit, Bool.and_eq_true, beq_iff_eq] at hfit
  obtain ⟨h1, h2⟩ := hfit
  have hrun := asg_op (P := P) (a := a) (w := w) (d := d) h2
  simp only [eev] at he
  split at he
  · simp only [Option.map_eq_some_iff, Prod.mk.injEq] at he
    obtain ⟨q, hq, rfl, rfl⟩ := he
    exact asg_run hN hd h hq h1 hrun
  · cases he
  · cases he
  · cases he
  · cases he
  · simp only [Option.some.injEq, Prod.mk.injEq] at he
    obtain ⟨_, rfl⟩ := he
    obtain ⟨k1, k2⟩ := mvA_rel h x hd
    obtain ⟨g', q1, _⟩ := h.put hd (by omega) (mvA_nomem _ _) k2 k1
    exact .value h1 hrun q1
theorem tk_sound {d : Nat} {x : Opd} (hfit : EOp.fit P o (.tk d x) = true) (hN : N ≤ 10000) (hd : d < N) (h : Rel N w0 g0 ar S a.tmps w g) (he : eev S (.tk d x) = some (c, S')) (hc : c) : Runs P N w0 g0 ar o a w S' := by
  simp only [EOp.fit, Bool.and_eq_true, beq_iff_eq] at hfit
  obtain ⟨h1, h2⟩ := hfit
  have hrun := asg_op (P := P) (a := a) (w := w) (d := d) h2
  simp only [eev, Option.map_eq_some_iff, Prod.mk.injEq] at he
  obtain ⟨q, hq, rfl, rfl⟩ := he
  exact asg_run hN hd h hq h1 hrun

theorem ext_sound {d x m : Nat} (hfit : EOp.fit P o (.ext d x m) = true) (hN : N ≤ 10000) (hd : d < N) (h : Rel N w0 g0 ar S a.tmps w g) (he : eev S (.ext d x m) = some (c, S')) (hc : c) : Runs P N w0 g0 ar o a w S' := by
  simp only [EOp.fit, Bool.and_eq_true, beq_iff_eq] at hfit
  obtain ⟨h1, h2⟩ := hfit
  split at h2
  · rename_i y k ho
    simp only [Bool.and_eq_true, beq_iff_eq] at h2
    obtain ⟨rfl, rfl⟩ := h2
    simp only [eev] at he
    split at he
    · rename_i rs hrs
      split at he
      · rename_i agg row hm
        split at he
        · rename_i hy
          simp only [Option.map_eq_some_iff, Prod.mk.injEq] at he
          obtain ⟨⟨row', S1⟩, hq, _, rfl⟩ := he
          have hx := h.vars y
          rw [hrs] at hx
          obtain ⟨vs, hv, hsz, hcc⟩ := hx
          obtain ⟨hl, hval⟩ := hcc k agg row hm
          have hk := (List.getElem?_eq_some_iff.1 hm).1
          have hrun : (execOp a.eval o).run P w = .ok (.value (vs.getD k undef)) w := by
            simp only [execOp, ho]
            have : a.eval (.tmp y) = .tuple vs := hv
            rw [this]
            refine run_seq (P := P) (Instr.extract (.tuple vs) k) (fun v => pure (Next.value v)) w (a := vs.getD k undef) (w' := w) ?_
            unfold Instr.extract
            have : vs[k]? = some (vs.getD k undef) := by rw [Array.getD_eq_getD_getElem?, Array.getElem?_eq_getElem (by omega)]; rfl
            simp only [this]; rfl
          obtain ⟨q1, q2⟩ := hval.cells
          obtain ⟨g1, k1, k2, k3, _⟩ := rsvRow_sound hy (fun j => (cellsV agg (vs.getD k undef)).getD (j - 1000 * k) undef) 0 row (1000 * k) S S1 g row' h (fun j c hj => by
            rw [show 1000 * k + j - 1000 * k = j by omega]; exact q2 j c hj) hq
          have hv1 : ValR S1.k g1 w 19000 (1000 * k) agg row' (vs.getD k undef) := ValR.of_cells (by
              rcases hval.shape with hsh | ⟨e1, e2⟩
              · exact .inl hsh
              · exact .inr ⟨e1, by omega⟩) (by omega) (fun j c hj => by
              have := k3 j c hj
              rwa [Nat.zero_add, show 1000 * k + j - 1000 * k = j by omega] at this)
          obtain ⟨g2, z1, _⟩ := k1.putRow hd (by omega) hv1
          exact .value h1 hrun z1
        · cases he
      · cases he
    · cases he
  · cases h2
end Go.Eng

namespace Go.Eng
variable {P : Program} {N : Nat} {w0 : World} {g0 : Ghost} {ar tm : Array Value} {S S' : St} {w w' : World} {g g' : Ghost} {o : Oper} {a : Act} {c : Prop}

theorem hasL_any (o : Nat) (p : Path) : hasL .any o p = false := by cases p <;> rfl
def gnew (g : Ghost) (B : Nat) (γ : Nat → Option Lab) : Ghost := fun b k => if b = B then γ k else g b k
theorem gnew_old {B : Nat} {γ : Nat → Option Lab} {b k : Nat} (h : b < B) : gnew g B γ b k = g b k := if_neg (by omega)
theorem gnew_new {B : Nat} {γ : Nat → Option Lab} {k : Nat} : gnew g B γ B k = γ k := if_pos rfl
theorem alloc_at (w : World) (o : Obj) : (w.alloc o).heap[w.heap.size]? = some o := by
  show (w.heap.push o)[w.heap.size]? = some o
  simp
theorem alloc_size (w : World) (o : Obj) : (w.alloc o).heap.size = w.heap.size + 1 := by
  show (w.heap.push o).size = _
  simp

theorem new_chg (h : Rel N w0 g0 ar S tm w g) {ρ : Lab → Option Lab} {D : Key → Prop} (hρ : Ren g ρ D) {K' : List Key} (hK : ∀ k ∈ S.k, k ∈ K') (hDK : ∀ k, D k → k ∈ K' ∨ 19000 ≤ k.1) (obj : Obj) (γ : Nat → Option Lab) :
    Chg S.k K' D g (gnew (gren ρ g) w.heap.size γ) w (w.alloc obj) (fun _ _ => False) where
  st := Step.alloc w obj
  K := hK
  DK := hDK
  old := h.old
  none := fun b k hb hn => ⟨fun h => h, by rw [gnew_old hb]; exact gren_none hn⟩
  un := fun b k l hl hu => ⟨fun h => h, by rw [gnew_old (h.old b k l hl)]; exact gren_of hl (hρ.un b k l hl hu)⟩
  root := fun b k r o hl => by rw [gnew_old (h.old b k _ hl)]; exact gren_of hl (hρ.root r o)

/-- A new block; what stands ready may go into it. -/
theorem Rel.new (h : Rel N w0 g0 ar S tm w g) {S' : St} {tm' : Array Value} {ρ : Lab → Option Lab} {D : Key → Prop} (hρ : Ren g ρ D) (hK : ∀ k ∈ S.k, k ∈ S'.k) (hDK : ∀ k, D k → k ∈ S'.k ∨ 19000 ≤ k.1)
    (obj : Obj) (γ : Nat → Option Lab) (hsize : tm'.size = N) (hγ1 : ∀ k l, γ k = some l → ¬ Sp l) (hγ2 : ∀ k k' l, γ k = some l → γ k' = some l → k = k')
    (hγ3 : ∀ k l b k' l', γ k = some l → g b k' = some l' → ρ l' ≠ some l) (hlab1 : ∀ k l, γ k = some l → 19000 ≤ l.1 ∨ hasL (S'.get l.1) l.2.1 l.2.2 = true)
    (hlab2 : ∀ b k l, g b k = some l → ∀ m, ρ l = some m → Sp m ∨ 19000 ≤ m.1 ∨ hasL (S'.get m.1) m.2.1 m.2.2 = true)
    (hhi : ∀ v, 19000 ≤ v → S'.get v = .any) (hslot : ∀ v row, v < 10000 → S'.get v ≠ .mem row)
    (hv : ∀ v, (tm'.getD v undef = tm.getD v undef ∧ S'.get v = S.get v ∧ ∀ o, ownAt (S.get v) o = true → ¬ D (v, o)) ∨ VarR S'.k (gnew (gren ρ g) w.heap.size γ) (w.alloc obj) tm' ar v (S'.get v)) :
    Rel N w0 g0 ar S' tm' (w.alloc obj) (gnew (gren ρ g) w.heap.size γ) := by
  refine h.chg (new_chg h hρ hK hDK obj γ) hsize (fun _ _ _ hm => hm.elim) (fun b k l hs hl => ?_) (fun b k b' k' l h1 h2 => ?_) (fun b k l hl => ?_) (fun b k l hl => ?_) hhi hslot hv
  · unfold gnew at hl
    split at hl
    · exact absurd hs (hγ1 k l hl)
    · obtain ⟨l', h1, h2⟩ := gren_some hl
      rw [h1, hρ.sp l' l h2 hs]
  · unfold gnew at h1 h2
    split at h1
    · rename_i e1
      split at h2
      · rename_i e2; exact ⟨by omega, hγ2 k k' l h1 h2⟩
      · obtain ⟨l', a1, a2⟩ := gren_some h2
        exact absurd a2 (hγ3 k l b' k' l' h1 a1)
    · split at h2
      · obtain ⟨l', a1, a2⟩ := gren_some h1
        exact absurd a2 (hγ3 k' l b k l' h2 a1)
      · obtain ⟨l1, a1, a2⟩ := gren_some h1
        obtain ⟨l2, b1, b2⟩ := gren_some h2
        rw [hρ.inj _ _ _ _ l1 l2 l a1 b1 a2 b2] at a1
        exact h.inj _ _ _ _ _ a1 b1
  · rw [alloc_size]
    unfold gnew at hl
    split at hl
    · omega
    · obtain ⟨l', h1, _⟩ := gren_some hl; have := h.old b k l' h1; omega
  · unfold gnew at hl
    split at hl
    · exact .inr (hlab1 k l hl)
    · obtain ⟨l', h1, h2⟩ := gren_some hl; exact hlab2 b k l' h1 l h2

/-- A staged tree, in the new block's world. -/
theorem new_tr {base n : Nat} {ow : Nat → Bool} {δ : Nat → Lab} {drop : Lab → Prop} {K K' : List Key} {D : Key → Prop} {B : Nat} {γ : Nat → Option Lab} {M : Nat → Nat → Prop}
    (hc : Chg K K' D g (gnew (gren (plL base n ow δ drop) g) B γ) w w' M) (hB : B = w.heap.size) (hM : ∀ b k, ¬ M b k) {j : Nat} (hj : j < n) {t : T} (ho : ownC (.ow t) = true → ow j = true) {v : Value} (h : TR g w 19000 (base + j) [] t v) :
    TR (gnew (gren (plL base n ow δ drop) g) B γ) w' (δ j).1 (δ j).2.1 (δ j).2.2 t v := by
  cases hp : ownC (.ow t) with
  | false => exact TR.elsewhere h hc.st hc.none hp
  | true =>
    exact TR.map h hc.st hc.none _ fun b k q hb hq hg => ⟨hM b k, by
      rw [gnew_old (by omega)]; exact gren_of hg (plL_mv hj (by simpa using hq) (ho hp))⟩

theorem slotD_of (h : Rel N w0 g0 ar S tm w g) {d b k : Nat} {l : Lab} (hd : d < 10000) (hl : g b k = some l) (hdr : ofSlot d l) : slotD S d (l.1, l.2.1) := by
  rcases h.lab b k l hl with h1 | h1 | h1
  · have := hdr.1; rcases h1 with h1 | h1 <;> omega
  · exact .inr h1
  · have := hasL_own h1; rw [hdr.1] at this; exact .inl ⟨hdr.1, this⟩
theorem slotD_K {d : Nat} {k : Key} (hk : slotD S d k) : k ∈ okeys d (S.get d) ++ S.k ∨ 19000 ≤ k.1 := by
  rcases hk with ⟨h1, h2⟩ | hk
  · left; refine List.mem_append_left _ ?_
    have := okeys_mem (d := d) h2
    obtain ⟨k1, k2⟩ := k
    simp only at h1 this ⊢
    rw [h1]; exact this
  · exact .inr hk

def ownG (sz : Nat) (rows : List Row) (j : Nat) : Bool := match get2 rows (j / sz) (j % sz) with | some t => ownC (.ow t) | none => false

/-- A new slice of a slot's own. -/
theorem newOwn_rel (h : Rel N w0 g0 ar S tm w g) {d sz cap : Nat} {rows : List Row} {arr : Array Value} {e : TypeId} (hd : d < N) (hd2 : d < 10000) (hl : ∀ r ∈ rows, r.length = sz) (h0 : 0 < sz) (hs : cap * sz ≤ arr.size) (hle : rows.length ≤ cap)
    (hn : rows.length ≤ 281474976710656) (hst : ∀ i o t, get2 rows i o = some t → TR g w 19000 (i * sz + o) [] t (arr.getD (i * sz + o) undef)) (fr : Nat × Nat) (hfr : fr = (0, 0)) :
    ∃ g', Rel N w0 g0 ar (S.set d (.val false [.ow (.sl .ow sz rows)])) (tm.setIfInBounds d (.slice (some ⟨w.heap.size, 0, none⟩) rows.length cap)) (w.alloc (.cells arr e fr)) g' := by
  subst hfr
  let n := rows.length * sz
  let ow := ownG sz rows
  let δ : Nat → Lab := fun j => (d, 0, [(j / sz, j % sz)])
  let γ : Nat → Option Lab := fun k => if k < cap * sz then some (d, 0, [(k / sz, k % sz)]) else none
  have hplc : Plc g n δ (ofSlot d) := {
    dj := fun j j' q q' _ _ _ _ e => by
      simp only [app3, δ, Prod.mk.injEq, List.cons_append, List.nil_append, List.cons.injEq, true_and] at e
      obtain ⟨⟨e1, e2⟩, e3⟩ := e
      refine ⟨?_, e3⟩
      rw [← Nat.div_add_mod' j sz, ← Nat.div_add_mod' j' sz, e1, e2]
    cov := fun j q b k _ hq _ => ⟨rfl, by simp [app3, δ]⟩
    lo := fun _ _ => by simp only [δ]; omega
    dr := fun l h => ⟨h.2, by rw [h.1]; omega⟩ }
  have hρ : Ren g (plL 0 n ow δ (ofSlot d)) (slotD S d) := plL_ren hplc (fun j _ => .inr (by simp)) (fun b k l hl hdr => slotD_of h hd2 hl hdr)
  have hK : ∀ k ∈ S.k, k ∈ (S.set d (.val false [.ow (.sl .ow sz rows)])).k := fun k hk => by rw [St.k_set]; exact List.mem_append_right _ hk
  have hDK : ∀ k, slotD S d k → k ∈ (S.set d (.val false [.ow (.sl .ow sz rows)])).k ∨ 19000 ≤ k.1 := fun k hk => slotD_K hk
  have hchg := new_chg h hρ hK hDK (.cells arr e) γ
  refine ⟨gnew (gren (plL 0 n ow δ (ofSlot d)) g) w.heap.size γ, h.new hρ hK hDK _ γ (by simp [h.size]) (fun k l hk hs => ?_) (fun k k' l h1 h2 => ?_) (fun k l b k' l' hk hg' he => ?_) (fun k l hk => ?_) (fun b k l hg m hm => ?_) (fun v hv => ?_) (fun u row hu => ?_) (fun u => ?_)⟩
  · simp only [γ] at hk; split at hk
    · injection hk with hk; subst hk; rcases hs with hs | hs <;> simp only at hs <;> omega
    · cases hk
  · simp only [γ] at h1 h2
    split at h1
    · split at h2
      · injection h1 with h1; subst h1
        simp only [Option.some.injEq, Prod.mk.injEq, List.cons.injEq, and_true, true_and] at h2
        rw [← Nat.div_add_mod' k sz, ← Nat.div_add_mod' k' sz, h2.1, h2.2]
      · cases h2
    · cases h1
  · simp only [γ] at hk; split at hk
    · injection hk with hk; subst hk
      rcases plL_some he with ⟨j, q, hj, hq, ho, rfl, e2⟩ | ⟨e2, h3, _⟩
      · simp only [app3, δ, Prod.mk.injEq, List.cons_append, List.nil_append, List.cons.injEq, true_and] at e2
        exact hq e2.2.symm
      · subst e2; exact h3 ⟨rfl, by simp⟩
    · cases hk
  · simp only [γ] at hk; split at hk
    · injection hk with hk; subst hk
      right; rw [St.get_set, if_pos rfl]; rfl
    · cases hk
  · rcases plL_some hm with ⟨j, q, hj, hq, ho, rfl, rfl⟩ | ⟨rfl, h3, _⟩
    · right; right
      simp only [app3, δ]
      rw [St.get_set, if_pos rfl]; rfl
    · rcases h.lab b k m hg with h4 | h4 | h4
      · exact .inl h4
      · exact .inr (.inl h4)
      · right; right
        rw [St.get_set]
        split
        · rename_i e; exact absurd ⟨e, h.noRoot (by omega) (h.slot d · hd2) hg e⟩ h3
        · exact h4
  · rw [St.get_set, if_neg (by omega)]; exact h.hi v hv
  · rw [St.get_set]; split
    · simp
    · exact h.slot u row hu
  · by_cases hu : u = d
    · subst hu
      right
      rw [St.get_set, if_pos rfl]
      simp only [VarR, getD_set_self (show u < tm.size by rw [h.size]; exact hd)]
      have := TR.own (g := gnew (gren (plL 0 n ow δ (ofSlot u)) g) w.heap.size γ) (w := w.alloc (.cells arr e)) (r := u) (o := 0) [] .ow rows w.heap.size 0 cap sz arr e (by simp) (alloc_at _ _) hl (by rw [bnd_ow]; omega) hle h0 hn
        (fun i o' hi ho => by
          rw [bnd_ow] at hi
          rw [gnew_new]
          have := idx_lt hi ho
          simp only [γ]
          rw [Nat.zero_add, if_pos this]
          have e1 : (i * sz + o') / sz = i := by rw [Nat.mul_comm, Nat.mul_add_div h0, Nat.div_eq_of_lt ho, Nat.add_zero]
          have e2 : (i * sz + o') % sz = o' := by rw [Nat.mul_comm, Nat.mul_add_mod, Nat.mod_eq_of_lt ho]
          rw [e1, e2]; rfl)
        (fun i o' t hgc => by
          obtain ⟨hi, ho⟩ := get2_lt hgc hl
          have hlt : i * sz + o' < n := idx_lt hi ho
          have e1 : (i * sz + o') / sz = i := by rw [Nat.mul_comm, Nat.mul_add_div h0, Nat.div_eq_of_lt ho, Nat.add_zero]
          have e2 : (i * sz + o') % sz = o' := by rw [Nat.mul_comm, Nat.mul_add_mod, Nat.mod_eq_of_lt ho]
          have hs0 := hst i o' t hgc
          rw [← Nat.zero_add (i * sz + o')] at hs0
          have := new_tr (δ := δ) (drop := ofSlot u) hchg rfl (fun _ _ h => h) hlt (fun hp => by simp only [ow, ownG, e1, e2, hgc]; exact hp) hs0
          simp only [δ, e1, e2] at this
          rw [Nat.zero_add] at this
          rw [Nat.zero_add, List.nil_append]
          simpa using this)
      exact this
    · left
      refine ⟨getD_set hu, by rw [St.get_set, if_neg hu], fun o ho hD => ?_⟩
      rcases hD with hD | hD
      · exact hu hD.1
      · rw [h.hi u hD] at ho; cases ho

/-- New memory behind a slot. -/
theorem newMem_rel (h : Rel N w0 g0 ar S tm w g) {d : Nat} {row : List Cl} {arr : Array Value} {e : TypeId} (hd : d < N) (hd2 : d < 5000) (hany : S.get (10000 + d) = .any) (hs : arr.size = row.length) (hne : row ≠ [])
    (hst : ∀ j c, row[j]? = some c → ClR S.k g w 19000 j c (arr.getD j undef)) :
    ∃ g', Rel N w0 g0 ar ((S.put (10000 + d) (.mem row)).set d (.pr (10000 + d) 0)) (tm.setIfInBounds d (.pointer (some ⟨w.heap.size, 0, none⟩))) (w.alloc (.cells arr e)) g' := by
  let R := 10000 + d
  have hdR : d ≠ R := by show d ≠ 10000 + d; omega
  let S1 := (S.put R (.mem row)).set d (.pr R 0)
  have hk1 : S1.k = okeys d (S.get d) ++ S.k := by
    show okeys d ((S.put R (.mem row)).get d) ++ S.k = _
    rw [St.get_put, if_neg hdR]
  have hget : ∀ u, S1.get u = if u = d then .pr R 0 else if u = R then .mem row else S.get u := fun u => by
    show (St.set _ _ _).get u = _
    rw [St.get_set]
    split
    · rfl
    · rw [St.get_put]
  let δ : Nat → Lab := fun j => (R, j, [])
  let γ : Nat → Option Lab := fun k => if k < row.length then some (R, k, []) else none
  have hnoR : ∀ b k l, g b k = some l → l.1 ≠ R := fun b k l hl e => by
    rcases h.lab b k l hl with h1 | h1 | h1
    · rcases h1 with h1 | h1 <;> simp only [R] at e <;> omega
    · simp only [R] at e; omega
    · rw [e, hany, hasL_any] at h1; cases h1
  have hplc : Plc g row.length δ (ofSlot d) := {
    dj := fun j j' q q' _ _ _ _ e => by simpa [app3, δ] using e
    cov := fun j q b k _ hq hg => absurd rfl (hnoR b k _ hg)
    lo := fun _ _ => by simp only [δ, R]; omega
    dr := fun l h => ⟨h.2, by rw [h.1]; omega⟩ }
  have hρ : Ren g (plL 0 row.length (ownF row) δ (ofSlot d)) (slotD S d) := plL_ren hplc (fun j _ => .inr (by simp)) (fun b k l hl hdr => slotD_of h (by omega) hl hdr)
  have hK : ∀ k ∈ S.k, k ∈ S1.k := fun k hk => by rw [hk1]; exact List.mem_append_right _ hk
  have hDK : ∀ k, slotD S d k → k ∈ S1.k ∨ 19000 ≤ k.1 := fun k hk => by rw [hk1]; exact slotD_K hk
  have hchg := new_chg h hρ hK hDK (.cells arr e) γ
  refine ⟨gnew (gren (plL 0 row.length (ownF row) δ (ofSlot d)) g) w.heap.size γ, h.new (S' := S1) hρ hK hDK _ γ (by simp [h.size]) (fun k l hk hs => ?_) (fun k k' l h1 h2 => ?_) (fun k l b k' l' hk hg' he => ?_) (fun k l hk => ?_) (fun b k l hg m hm => ?_) (fun v hv => ?_) (fun u row' hu => ?_) (fun u => ?_)⟩
  · simp only [γ] at hk; split at hk
    · injection hk with hk; subst hk; rcases hs with hs | hs <;> simp only [R] at hs <;> omega
    · cases hk
  · simp only [γ] at h1 h2
    split at h1
    · split at h2
      · injection h1 with h1; subst h1
        simp only [Option.some.injEq, Prod.mk.injEq, and_true, true_and] at h2
        exact h2.symm
      · cases h2
    · cases h1
  · simp only [γ] at hk; split at hk
    · injection hk with hk; subst hk
      rcases plL_some he with ⟨j, q, hj, hq, ho, rfl, e2⟩ | ⟨e2, h3, _⟩
      · simp only [app3, δ, Prod.mk.injEq, List.nil_append, true_and] at e2
        exact hq e2.2.symm
      · subst e2; exact hnoR _ _ _ hg' rfl
    · cases hk
  · simp only [γ] at hk; split at hk
    · injection hk with hk; subst hk
      right
      simp only
      rw [hget, if_neg (Ne.symm hdR), if_pos rfl]
      simp [hasL]; assumption
    · cases hk
  · rcases plL_some hm with ⟨j, q, hj, hq, ho, rfl, rfl⟩ | ⟨rfl, h3, _⟩
    · right; right
      simp only [app3, δ]
      rw [hget, if_neg (Ne.symm hdR), if_pos rfl]
      cases q with
      | nil => exact absurd rfl hq
      | cons x q => simp [hasL, ownAt]; exact hj
    · rcases h.lab b k m hg with h4 | h4 | h4
      · exact .inl h4
      · exact .inr (.inl h4)
      · right; right
        rw [hget]
        split
        · rename_i e; exact absurd ⟨e, h.noRoot (by omega) (h.slot d · (by omega)) hg e⟩ h3
        · rw [if_neg (hnoR b k m hg)]; exact h4
  · rw [hget, if_neg (by omega), if_neg (by simp only [R]; omega)]; exact h.hi v hv
  · rw [hget]; split
    · simp
    · rw [if_neg (by simp only [R]; omega)]; exact h.slot u row' hu
  · by_cases hu : u = d
    · subst hu
      right
      rw [hget, if_pos rfl]
      refine ⟨w.heap.size, 0, getD_set_self (by rw [h.size]; exact hd), ?_⟩
      rw [gnew_new]
      have : 0 < row.length := List.length_pos_iff.2 hne
      simp only [γ]; rw [if_pos this]
    · by_cases hu2 : u = R
      · right
        rw [hget, if_neg hu, if_pos hu2]
        refine ⟨w.heap.size, 0, arr, e, alloc_at _ _, by omega, fun j c hj => ?_⟩
        have hlt := (List.getElem?_eq_some_iff.1 hj).1
        rw [Nat.zero_add, gnew_new]
        refine ⟨by simp only [γ]; rw [if_pos hlt, hu2], ?_⟩
        have hs0 := hst j c hj
        cases c with
        | vw pl ks t => exact ClR.chg (r := u) (o := j) hs0 hchg (by simp [ownC])
        | ow t =>
          have := new_tr (δ := δ) (drop := ofSlot d) (base := 0) (t := t) (v := arr.getD j undef) hchg rfl (fun _ _ h => h) hlt (fun hp => by simp [ownF, hj, hp]) (by rw [Nat.zero_add]; exact hs0)
          simp only [δ] at this
          rw [hu2]; exact this
      · left
        refine ⟨getD_set hu, by rw [hget, if_neg hu, if_neg hu2], fun o ho hD => ?_⟩
        rcases hD with hD | hD
        · exact hu hD.1
        · rw [h.hi u hD] at ho; cases ho
end Go.Eng

namespace Go.Eng
variable {P : Program} {N : Nat} {w0 : World} {g0 : Ghost} {ar tm : Array Value} {S S' : St} {w w' : World} {g g' : Ghost} {o : Oper} {a : Act} {c : Prop}

/-- A zero value's cells. -/
theorem zeroB_cells {t : TypeId} {z : List Kc} (h : zeroB P t z = true) : ∃ i v, P.info? t = some i ∧ i.zero = some v ∧ i.size = z.length ∧ v.cells.size = z.length ∧ ∀ j x, z[j]? = some x → v.cells.getD j undef = x.v := by
  unfold zeroB at h
  split at h
  · rename_i i hi
    split at h
    · rename_i v hv
      simp only [Bool.and_eq_true, beq_iff_eq] at h
      have hcs := Kc.are_eq h.2
      refine ⟨i, v, hi, hv, h.1, by have := congrArg List.length hcs; simpa using this, fun j x hx => ?_⟩
      rw [Array.getD_eq_getD_getElem?, ← Array.getElem?_toList, hcs, List.getElem?_map, hx]; rfl
    · cases h
  · cases h
theorem kc_get {z : List Kc} {j : Nat} {c : Cl} (h : (kc z)[j]? = some c) : ∃ x, z[j]? = some x ∧ c = .ow x.t := by
  simp only [kc, List.getElem?_map, Option.map_eq_some_iff] at h
  obtain ⟨x, hx, rfl⟩ := h
  exact ⟨x, hx, rfl⟩

theorem box_sound {d : Nat} {x : Opd} (hfit : EOp.fit P o (.box d x) = true) (hN : N ≤ 10000) (hd : d < N) (h : Rel N w0 g0 ar S a.tmps w g) (he : eev S (.box d x) = some (c, S')) (hc : c) : Runs P N w0 g0 ar o a w S' := by
  simp only [EOp.fit, Bool.and_eq_true, beq_iff_eq, decide_eq_true_eq] at hfit
  obtain ⟨⟨h1, h5⟩, h2⟩ := hfit
  split at h2
  · rename_i t y ho
    simp only [eev] at he
    split at he
    · rename_i agg row S1 hr
      split at he
      · rename_i hany
        simp only [Option.some.injEq, Prod.mk.injEq] at he
        obtain ⟨rfl, rfl⟩ := he
        obtain ⟨g1, k1, k2, _⟩ := rsv_sound h hr 0
        obtain ⟨q1, q2⟩ := k2.at
        obtain ⟨g2, z1⟩ := newMem_rel (e := t) k1 hd h5 hany q1 hc (fun j c hj => by simpa using q2 j c hj)
        refine .value h1 ?_ z1
        simp only [execOp, ho, opdB_eval h2 a]; rfl
      · cases he
    · cases he
  · cases h2

theorem alloc_sound {d : Nat} {z : List Kc} (hfit : EOp.fit P o (.alloc d z) = true) (hN : N ≤ 10000) (hd : d < N) (h : Rel N w0 g0 ar S a.tmps w g) (he : eev S (.alloc d z) = some (c, S')) (hc : c) : Runs P N w0 g0 ar o a w S' := by
  simp only [EOp.fit, Bool.and_eq_true, beq_iff_eq, decide_eq_true_eq] at hfit
  obtain ⟨⟨⟨h1, h5⟩, hz⟩, h2⟩ := hfit
  have hz : z ≠ [] := by intro e; subst e; simp at hz
  split at h2
  · rename_i t ho
    obtain ⟨i, v, hi, hv, _, hs, hcells⟩ := zeroB_cells h2
    simp only [eev] at he
    split at he
    · rename_i hany
      simp only [Option.some.injEq, Prod.mk.injEq] at he
      obtain ⟨_, rfl⟩ := he
      obtain ⟨g2, z1⟩ := newMem_rel (e := t) (row := kc z) (arr := v.cells) h hd h5 hany (by simp [kc, hs]) (by simpa [kc] using hz) (fun j c hj => by
        obtain ⟨x, hx, rfl⟩ := kc_get hj
        rw [hcells j x hx]; exact Kc.rel _ _ _ _ _ x)
      refine .value h1 ?_ z1
      simp only [execOp, ho]
      refine run_seq (P := P) (Instr.alloc t true (.tuple #[])) (fun v => pure (Next.value v)) w (a := .pointer (some ⟨w.heap.size, 0, none⟩)) (w' := w.alloc (.cells v.cells t)) ?_
      unfold Instr.alloc
      have hzr : (zeroValue t).run P w = .ok v w := by simp [zeroValue, typeInfo, hi, hv]
      rw [run_seq _ _ _ hzr]
      rfl
    · cases he
  · cases h2

theorem rowT_get {row : List Cl} {r : Row} (h : rowT row = some r) : row = r.map .ow := by
  induction row generalizing r with
  | nil => simp [rowT] at h; subst h; rfl
  | cons c l ih =>
    cases c with
    | vw => simp [rowT] at h
    | ow t =>
      simp only [rowT, Option.map_eq_some_iff] at h
      obtain ⟨r', h1, rfl⟩ := h
      rw [ih h1]; rfl

/-- The parts of a slice's literal stand ready, one behind the other. -/
theorem rowsOf_sound {sz : Nat} : ∀ (l : List Opd) (m : Nat) (S S' : St) (g : Ghost) (rows : List Row) (k : Nat), Rel N w0 g0 ar S tm w g → rowsOf S k l = some (rows, S') → (∀ r ∈ rows, r.length = sz) →
    ∃ g', Rel N w0 g0 ar S' tm w g' ∧ rows.length = l.length ∧ (∀ (i : Nat) (x : Opd), l[i]? = some x → (x.val tm).cells.size = sz) ∧
      (∀ (i o : Nat) (t : T) (x : Opd), get2 rows i o = some t → l[i]? = some x → TR g' w 19000 ((m + i) * sz + o) [] t ((x.val tm).cells.getD o undef)) ∧ Kept S S' g g' w (fun i => m * sz ≤ i) := by
  intro l
  induction l with
  | nil =>
    intro m S S' g rows k h he hl
    simp only [rowsOf, Option.some.injEq, Prod.mk.injEq] at he
    obtain ⟨rfl, rfl⟩ := he
    exact ⟨g, h, rfl, by simp, fun i o t x hg => by simp [get2] at hg, Kept.refl _ _ _ _⟩
  | cons x l ih =>
    intro m S S' g rows k h he hl
    simp only [rowsOf] at he
    split at he
    · rename_i agg row S1 hr
      split at he
      · rename_i r hrow
        simp only [Option.map_eq_some_iff, Prod.mk.injEq] at he
        obtain ⟨⟨rows', S2⟩, h2, rfl, rfl⟩ := he
        obtain ⟨g1, k1, k2, k3⟩ := rsv_sound h hr (m * sz)
        have hrl := rowT_get hrow
        have hlen : row.length = sz := by rw [hrl, List.length_map]; exact hl r (by simp)
        obtain ⟨q1, q2⟩ := k2.at
        obtain ⟨g2, m1, m2, m3, m4, m5⟩ := ih (m + 1) S1 S2 g1 rows' _ k1 h2 (fun r' hr' => hl r' (by simp [hr']))
        refine ⟨g2, m1, by simp [m2], fun i y hy => ?_, fun i o t y hg hy => ?_, (k3.trans m5).mono fun i hi => ?_⟩
        · cases i with
          | zero => simp at hy; subst hy; rw [q1, hlen]
          | succ i => exact m3 i y (by simpa using hy)
        · cases i with
          | zero =>
            simp at hy; subst hy
            have hg' : r[o]? = some t := by unfold get2 at hg; simpa using hg
            have ho := (List.getElem?_eq_some_iff.1 hg').1
            have hrsz : r.length = sz := hl r (by simp)
            have := m5.st (m * sz + o) (.ow t) _ (by rw [Nat.add_mul]; omega) (q2 o (.ow t) (by rw [hrl, List.getElem?_map, hg']; rfl))
            rw [Nat.add_zero]; exact this
          | succ i =>
            have := m4 i o t y (by unfold get2 at hg ⊢; simpa using hg) (by simpa using hy)
            rwa [show m + 1 + i = m + (i + 1) by omega] at this
        · rcases hi with hi | hi
          · exact hi.1
          · rw [Nat.add_mul] at hi; omega
      · cases he
    · cases he

theorem rows_fill {sz : Nat} {a : Act} : ∀ (ps : List (Nat × Operand)) (parts : List Opd) (k : Nat) (cells : Array Value), rowPartsB k ps parts = true → (∀ (i : Nat) (x : Opd), parts[i]? = some x → (x.val a.tmps).cells.size = sz) →
    (k + parts.length) * sz ≤ cells.size → ∃ cells', Instr.fill (fun i => some (i * sz, sz)) cells (ps.map fun (i, x) => (i, a.eval x)) = some cells' ∧ cells'.size = cells.size ∧ (∀ j, j < k * sz → cells'[j]? = cells[j]?) ∧
      ∀ (i : Nat) (x : Opd), parts[i]? = some x → ∀ o, o < sz → cells'.getD ((k + i) * sz + o) undef = (x.val a.tmps).cells.getD o undef := by
  intro ps
  induction ps with
  | nil =>
    intro parts k cells hp hl hs
    cases parts with
    | nil => exact ⟨cells, rfl, rfl, fun _ _ => rfl, fun i x h => by simp at h⟩
    | cons y m => simp [rowPartsB] at hp
  | cons q l ih =>
    obtain ⟨i, x⟩ := q
    intro parts k cells hp hl hs
    cases parts with
    | nil => simp [rowPartsB] at hp
    | cons y m =>
      simp only [rowPartsB, Bool.and_eq_true, beq_iff_eq] at hp
      obtain ⟨⟨rfl, h1⟩, h3⟩ := hp
      have hcs : (y.val a.tmps).cells.size = sz := hl 0 y rfl
      simp only [List.length_cons] at hs
      have hk : (k + 1) * sz ≤ cells.size := Nat.le_trans (Nat.mul_le_mul_right _ (by omega)) hs
      rw [Nat.add_mul, Nat.one_mul] at hk
      obtain ⟨cells', e1, e2, e3, e4⟩ := ih m (k + 1) (arrSet cells (k * sz) (y.val a.tmps).cells.toList) h3 (fun i x hx => hl (i + 1) x (by simpa using hx)) (by rw [arrSet_size, show k + 1 + m.length = k + (m.length + 1) by omega]; exact hs)
      refine ⟨cells', ?_, by rw [e2, arrSet_size], fun j hj => ?_, fun i x' hx' o ho => ?_⟩
      · simp only [List.map_cons, opdB_eval h1 a]
        rw [fill_cons (off := k * sz) (sz := sz) rfl hcs (by omega)]
        exact e1
      · rw [e3 j (by rw [Nat.add_mul]; omega)]
        exact arrSet_out _ _ _ _ (.inl hj)
      · cases i with
        | zero =>
          simp at hx'; subst hx'
          have := e3 (k * sz + o) (by rw [Nat.add_mul]; omega)
          rw [Nat.add_zero, getD_of_getElem? this]
          rw [Array.getD_eq_getD_getElem?, arrSet_in _ _ _ _ (by simp; omega) (by simp; omega), Array.getElem?_toList, ← Array.getD_eq_getD_getElem?]
        | succ i =>
          have := e4 i x' (by simpa using hx') o ho
          rwa [show k + 1 + i = k + (i + 1) by omega] at this

theorem bsl_sound {d sz : Nat} {parts : List Opd} (hfit : EOp.fit P o (.bsl d sz parts) = true) (hN : N ≤ 10000) (hd : d < N) (h : Rel N w0 g0 ar S a.tmps w g) (he : eev S (.bsl d sz parts) = some (c, S')) (hc : c) : Runs P N w0 g0 ar o a w S' := by
  simp only [EOp.fit, Bool.and_eq_true, beq_iff_eq] at hfit
  obtain ⟨h1, h2⟩ := hfit
  split at h2
  · rename_i t len ps ho
    simp only [Bool.and_eq_true, beq_iff_eq] at h2
    obtain ⟨⟨rfl, hps⟩, h2⟩ := h2
    split at h2
    · rename_i e hu
      split at h2
      · rename_i i hi
        simp only [Bool.and_eq_true, beq_iff_eq, decide_eq_true_eq] at h2
        obtain ⟨⟨⟨rfl, h0⟩, hle⟩, hzs⟩ := h2
        obtain ⟨z, hz⟩ := Option.isSome_iff_exists.1 hzs
        simp only [eev, Option.map_eq_some_iff, Prod.mk.injEq] at he
        obtain ⟨⟨rows, S1⟩, hro, rfl, rfl⟩ := he
        have hc : ∀ r ∈ rows, r.length = i.size := hc
        obtain ⟨g1, k1, k2, k3, k4, _⟩ := rowsOf_sound (sz := i.size) parts 0 S S1 g rows 0 h hro hc
        have hzr : (zeroValue e).run P w = .ok z w := by simp [zeroValue, typeInfo, hi, hz]
        let cells0 := (Array.range (parts.length * i.size)).map fun k => (if parts.length * i.size = 0 then (#[] : Array Value) else z.cells)[k % (if parts.length * i.size = 0 then (#[] : Array Value) else z.cells).size]!
        have hs0 : cells0.size = parts.length * i.size := by simp [cells0]
        obtain ⟨cells', e1, e2, _, e4⟩ := rows_fill (a := a) (sz := i.size) ps.toList parts 0 cells0 hps k3 (by rw [hs0, Nat.zero_add]; exact Nat.le_refl _)
        have hrun : (execOp a.eval o).run P w = .ok (.value (.slice (some ⟨w.heap.size, 0, none⟩) rows.length rows.length)) (w.alloc (.cells cells' e)) := by
          rw [k2]
          simp only [execOp, ho]
          refine run_seq (P := P) _ (fun v => pure (Next.value v)) w (a := .slice (some ⟨w.heap.size, 0, none⟩) parts.length parts.length) (w' := w.alloc (.cells cells' e)) ?_
          unfold Instr.buildSlice
          rw [run_seq _ _ _ (run_underlying hu w)]
          have hsz : szOf P e = some i.size := by simp [szOf, hi]
          show ((sizeOf e) >>= _ : Sem Value).run P w = _
          rw [run_seq _ _ _ (run_sizeOf hsz w)]
          rw [if_neg (by omega)]
          have e1' : Instr.fill (fun k => some (k * i.size, i.size)) cells0 (ps.map fun (i, x) => (i, a.eval x)).toList = some cells' := by rw [Array.toList_map]; exact e1
          by_cases h00 : parts.length * i.size = 0
          · simp only [cells0, if_pos h00] at e1'
            simp only [if_pos h00]
            rw [Sem.run_bind]
            simp only [Sem.run_pure, Result.andThen_ok, e1']
            rfl
          · simp only [cells0, if_neg h00] at e1'
            simp only [if_neg h00]
            rw [Sem.run_bind, hzr]
            simp only [Result.andThen_ok, Sem.run_bind, Sem.run_pure, e1']
            rfl
        have hlen : parts.length * 1 ≤ parts.length * i.size := Nat.mul_le_mul_left _ h0
        obtain ⟨g2, z1⟩ := newOwn_rel (e := e) (cap := rows.length) (rows := rows) (arr := cells') k1 hd (by omega) hc h0 (by rw [e2, hs0, k2]; exact Nat.le_refl _) (Nat.le_refl _) (by omega) (fun i' o' t hg => by
          obtain ⟨hi', ho'⟩ := get2_lt hg hc
          have hp : parts[i']? = some (parts[i']'(by omega)) := List.getElem?_eq_getElem (by omega)
          have hv := e4 i' _ hp o' ho'
          rw [Nat.zero_add] at hv
          rw [hv]
          have := k4 i' o' t _ hg hp
          rwa [Nat.zero_add] at this) (0, 0) rfl
        exact .value h1 hrun z1
      · cases h2
    · cases h2
  · cases h2

theorem alloc_rel (h : Rel N w0 g0 ar S tm w g) (ob : Obj) : Rel N w0 g0 ar S tm (w.alloc ob) g :=
  h.chg (D := fun _ => False) (M := fun _ _ => False) ⟨Step.alloc w ob, fun k hk => hk, fun _ hd => hd.elim, h.old, fun b k _ hn => ⟨fun h => h, hn⟩, fun b k l hl _ => ⟨fun h => h, hl⟩, fun _ _ _ _ h => h⟩ h.size (fun _ _ _ hm => hm.elim)
    (fun _ _ _ _ h => h) h.inj (fun b k l hl => by rw [alloc_size]; have := h.old b k l hl; omega) h.lab h.hi h.slot (fun v => .inl ⟨rfl, rfl, fun _ _ h => h⟩)
/-- What is looked at, cell by cell. -/
theorem viewsOf_sound {sz : Nat} (h : Rel N w0 g0 ar S tm w g) : ∀ (l : List Opd) (rows : List Row) (ks : List Key), viewsOf S.get l = some (rows, ks) → (∀ r ∈ rows, r.length = sz) →
    rows.length = l.length ∧ (∀ (i : Nat) (x : Opd), l[i]? = some x → (x.val tm).cells.size = sz) ∧
      ∀ (i o : Nat) (t : T) (x : Opd), get2 rows i o = some t → l[i]? = some x → HdR t ((x.val tm).cells.getD o undef) ∧ (Vd S.k ks → ShR (LP ks) g w t ((x.val tm).cells.getD o undef)) := by
  intro l
  induction l with
  | nil =>
    intro rows ks he hl
    simp only [viewsOf, Option.some.injEq, Prod.mk.injEq] at he
    obtain ⟨rfl, rfl⟩ := he
    exact ⟨rfl, fun i x hx => by simp at hx, fun i o t x hg hx => by simp at hx⟩
  | cons x l ih =>
    intro rows ks he hl
    simp only [viewsOf] at he
    split at he
    · rename_i agg row hv
      simp only [Option.map_eq_some_iff] at he
      obtain ⟨⟨rows1, ks1⟩, h1, h2⟩ := he
      simp only [Prod.mk.injEq] at h2
      obtain ⟨rfl, rfl⟩ := h2
      obtain ⟨k1, k2, k3⟩ := ih rows1 ks1 h1 (fun r hr => hl r (List.mem_cons_of_mem _ hr))
      obtain ⟨q1, q2⟩ := vrow_rel h hv 19000 0
      obtain ⟨q3, q4⟩ := q1.cells
      have hrl : row.length = sz := by have := hl _ (List.mem_cons_self ..); simpa using this
      have hcv : cellsV agg (x.val tm) = (x.val tm).cells := by
        rcases q1.shape with ⟨rfl, arr, e⟩ | ⟨rfl, e⟩
        · rw [e]; rfl
        · have hone : ∃ c, row = [c] := by
            match row, e with
            | [c], _ => exact ⟨c, rfl⟩
          obtain ⟨c, rfl⟩ := hone
          have : (x.val tm).oneCell' = true := ClR.one (K := S.k) (g := g) (w := w) (r := 19000) (o := 0) (c := c) (by
            have := q4 0 c rfl
            have e2 : (cellsV false (x.val tm)).getD 0 undef = x.val tm := by cases x.val tm <;> rfl
            rw [e2] at this; exact this)
          rw [one_cells this]; cases x.val tm <;> rfl
      rw [hcv] at q3 q4
      refine ⟨by simp [k1], fun i y hy => ?_, fun i o t y hg hy => ?_⟩
      · cases i with
        | zero => simp at hy; subst hy; omega
        | succ i => exact k2 i y (by simpa using hy)
      · cases i with
        | zero =>
          simp at hy; subst hy
          simp only [get2, List.getElem?_cons_zero, Option.bind_some, List.getElem?_map, Option.map_eq_some_iff] at hg
          obtain ⟨c, hc, rfl⟩ := hg
          have hcl := q4 o c hc
          refine ⟨hcl.hd, fun hvd => ?_⟩
          cases c with
          | vw pl kk t =>
            have hsub : ∀ k ∈ kk, k ∈ rowKs row := fun k hk => List.mem_flatMap.2 ⟨_, List.mem_of_getElem? hc, hk⟩
            exact (hcl.2 (fun k hk => hvd k (List.mem_append_left _ (hsub k hk)))).1.mono fun l hl => hl.mono fun k hk => List.mem_append_left _ (hsub k hk)
          | ow t =>
            have hp := q2 _ (List.mem_of_getElem? hc)
            have hcl : TR g w 19000 (0 + o) [] t _ := hcl
            have := TR.elsewhere0 (r' := 19000) (o' := 0) (p' := []) hcl hp
            cases t with
            | lit v => cases this with | lit _ _ h1 => exact .lit _ h1
            | bad => cases this with | bad _ _ h1 => exact .bad _ h1
            | sl m sz' rows' =>
              cases m with
              | fro => exact this.frozen.mono fun l hl => .inl hl
              | ow => simp [ownC] at hp
              | el => simp [ownC] at hp
        | succ i =>
          obtain ⟨z1, z2⟩ := k3 i o t y (by simpa [get2] using hg) (by simpa using hy)
          exact ⟨z1, fun hvd => (z2 (fun k hk => hvd k (List.mem_append_right _ hk))).mono fun l hl => hl.mono fun k hk => List.mem_append_right _ hk⟩
    · cases he
theorem bsv_sound {d sz : Nat} {parts : List Opd} (hfit : EOp.fit P o (.bsv d sz parts) = true) (hN : N ≤ 10000) (hd : d < N) (h : Rel N w0 g0 ar S a.tmps w g) (he : eev S (.bsv d sz parts) = some (c, S')) (hc : c) : Runs P N w0 g0 ar o a w S' := by
  simp only [EOp.fit, Bool.and_eq_true, beq_iff_eq] at hfit
  obtain ⟨h1, h2⟩ := hfit
  split at h2
  · rename_i t len ps ho
    simp only [Bool.and_eq_true, beq_iff_eq] at h2
    obtain ⟨⟨rfl, hps⟩, h2⟩ := h2
    split at h2
    · rename_i e hu
      split at h2
      · rename_i i hi
        simp only [Bool.and_eq_true, beq_iff_eq, decide_eq_true_eq] at h2
        obtain ⟨⟨⟨rfl, h0⟩, hle⟩, hzs⟩ := h2
        obtain ⟨z, hz⟩ := Option.isSome_iff_exists.1 hzs
        simp only [eev, Option.map_eq_some_iff, Prod.mk.injEq] at he
        obtain ⟨⟨rows, ks⟩, hro, rfl, rfl⟩ := he
        have hc : ∀ r ∈ rows, r.length = i.size := hc
        obtain ⟨k2, k3, k4⟩ := viewsOf_sound (sz := i.size) h parts rows ks hro hc
        have hzr : (zeroValue e).run P w = .ok z w := by simp [zeroValue, typeInfo, hi, hz]
        let cells0 := (Array.range (parts.length * i.size)).map fun k => (if parts.length * i.size = 0 then (#[] : Array Value) else z.cells)[k % (if parts.length * i.size = 0 then (#[] : Array Value) else z.cells).size]!
        have hs0 : cells0.size = parts.length * i.size := by simp [cells0]
        obtain ⟨cells', e1, e2, _, e4⟩ := rows_fill (a := a) (sz := i.size) ps.toList parts 0 cells0 hps k3 (by rw [hs0, Nat.zero_add]; exact Nat.le_refl _)
        have hrun : (execOp a.eval o).run P w = .ok (.value (.slice (some ⟨w.heap.size, 0, none⟩) rows.length rows.length)) (w.alloc (.cells cells' e)) := by
          rw [k2]
          simp only [execOp, ho]
          refine run_seq (P := P) _ (fun v => pure (Next.value v)) w (a := .slice (some ⟨w.heap.size, 0, none⟩) parts.length parts.length) (w' := w.alloc (.cells cells' e)) ?_
          unfold Instr.buildSlice
          rw [run_seq _ _ _ (run_underlying hu w)]
          have hsz : szOf P e = some i.size := by simp [szOf, hi]
          show ((sizeOf e) >>= _ : Sem Value).run P w = _
          rw [run_seq _ _ _ (run_sizeOf hsz w)]
          rw [if_neg (by omega)]
          have e1' : Instr.fill (fun k => some (k * i.size, i.size)) cells0 (ps.map fun (i, x) => (i, a.eval x)).toList = some cells' := by rw [Array.toList_map]; exact e1
          by_cases h00 : parts.length * i.size = 0
          · simp only [cells0, if_pos h00] at e1'
            simp only [if_pos h00]
            rw [Sem.run_bind]
            simp only [Sem.run_pure, Result.andThen_ok, e1']
            rfl
          · simp only [cells0, if_neg h00] at e1'
            simp only [if_neg h00]
            rw [Sem.run_bind, hzr]
            simp only [Result.andThen_ok, Sem.run_bind, Sem.run_pure, e1']
            rfl
        have hlen : parts.length * 1 ≤ parts.length * i.size := Nat.mul_le_mul_left _ h0
        have hr1 := alloc_rel h (.cells cells' e)
        have hst : Step (fun _ _ => False) w (w.alloc (.cells cells' e)) := Step.alloc w _
        have hfresh : ∀ k, g w.heap.size k = none := fun k => by
          cases hg : g w.heap.size k with
          | none => rfl
          | some l => have := h.old _ _ _ hg; omega
        have hsl : Vd S.k ks → ShR (LP ks) g (w.alloc (.cells cells' e)) (.sl .ow i.size rows) (.slice (some ⟨w.heap.size, 0, none⟩) rows.length rows.length) := fun hvd => by
          refine .sl .ow rows w.heap.size 0 rows.length i.size cells' e _ (alloc_at w _) hc (fun k _ _ => .inl (hfresh k)) (by rw [e2, hs0, k2, Nat.zero_add]; exact Nat.le_refl _) (by omega) (Nat.le_refl _) fun i' o' t hg => ?_
          obtain ⟨hi', ho'⟩ := get2_lt hg hc
          have hp : parts[i']? = some (parts[i']'(by omega)) := List.getElem?_eq_getElem (by omega)
          have hv := e4 i' _ hp o' ho'
          rw [Nat.zero_add] at hv ⊢
          rw [hv]
          exact ((k4 i' o' t _ hg hp).2 hvd).map hst fun b k _ hl => ⟨fun h => h, hl⟩
        obtain ⟨g2, z1, _⟩ := hr1.put (d := d) (a := .val false [.vw none ks (.sl .ow i.size rows)]) (v := .slice (some ⟨w.heap.size, 0, none⟩) rows.length rows.length) hd (by omega) (by simp) (fun o => ownAt_plain (fun c hc => by simp at hc; subst hc; rfl) o) (by
          simp only [VarR, getD_set_self (show d < a.tmps.size by rw [h.size]; exact hd)]
          refine ⟨⟨_, _, rfl, Nat.le_refl _, by omega, fun _ => ⟨_, _, rfl⟩⟩, fun hvd => ⟨hsl hvd, fun l lo e => by cases e⟩⟩)
        exact .value h1 hrun z1
      · cases h2
    · cases h2
  · cases h2

theorem mks_sound {d bytes : Nat} {x y : Opd} {z : List Kc} (hfit : EOp.fit P o (.mks d x y z bytes) = true) (hN : N ≤ 10000) (hd : d < N) (h : Rel N w0 g0 ar S a.tmps w g) (he : eev S (.mks d x y z bytes) = some (c, S')) (hc : c) : Runs P N w0 g0 ar o a w S' := by
  simp only [EOp.fit, Bool.and_eq_true, beq_iff_eq] at hfit
  obtain ⟨h1, h2⟩ := hfit
  split at h2
  · rename_i t n0 c0 ho
    simp only [Bool.and_eq_true] at h2
    obtain ⟨⟨hx, hy⟩, h2⟩ := h2
    split at h2
    · rename_i e hu
      split at h2
      · rename_i i hi
        simp only [Bool.and_eq_true, beq_iff_eq, decide_eq_true_eq, Bool.not_eq_true'] at h2
        obtain ⟨⟨⟨rfl, hb0⟩, hze⟩, hz⟩ := h2
        obtain ⟨i', v, hi', hv, hisz, hs, hcells⟩ := zeroB_cells hz
        rw [hi] at hi'; injection hi' with hi'; subst hi'
        have hz0 : 0 < z.length := by cases z with | nil => simp at hze | cons x l => simp
        simp only [eev] at he
        split at he
        · rename_i n m hn hm
          simp only [Option.some.injEq, Prod.mk.injEq] at he
          obtain ⟨rfl, rfl⟩ := he
          obtain ⟨c1, c2, c3⟩ := hc
          obtain ⟨kn, en⟩ := intA_val h hn
          obtain ⟨km, em⟩ := intA_val h hm
          have hmb : m ≤ m * i.bytes := by
            have := Int.mul_le_mul_of_nonneg_left (show (1 : Int) ≤ (i.bytes : Int) by omega) (show 0 ≤ m by omega)
            omega
          have hcomm : (i.bytes : Int) * m = m * i.bytes := Int.mul_comm _ _
          have hrun0 := run_make (P := P) w t e i v hu hi hv kn km n m c1 c2 (by omega) (by omega)
          have hlen : (List.replicate n.toNat (z.map Kc.t)).length = n.toNat := by simp
          obtain ⟨g2, z1⟩ := newOwn_rel (e := e) (cap := m.toNat) (rows := List.replicate n.toNat (z.map Kc.t)) (sz := z.length) (arr := madeCells v.cells (m.toNat * i.size)) h hd (by omega)
            (fun r hr => by rw [List.eq_of_mem_replicate hr]; simp) hz0 (by rw [size_madeCells, hisz]; exact Nat.le_refl _) (by rw [hlen]; omega) (by rw [hlen]; omega) (fun j o' t' hg => by
              have hl : ∀ r ∈ List.replicate n.toNat (z.map Kc.t), r.length = z.length := fun r hr => by rw [List.eq_of_mem_replicate hr]; simp
              obtain ⟨hj, ho'⟩ := get2_lt hg hl
              rw [hlen] at hj
              have hlt : j * z.length + o' < m.toNat * z.length := idx_lt (by omega) ho'
              unfold get2 at hg
              rw [List.getElem?_replicate, if_pos hj] at hg
              simp only [Option.bind_some, List.getElem?_map, Option.map_eq_some_iff] at hg
              obtain ⟨x0, hx0, rfl⟩ := hg
              have hval : (madeCells v.cells (m.toNat * i.size)).getD (j * z.length + o') undef = x0.v := by
                unfold madeCells
                rw [Array.getD_eq_getD_getElem?, Array.getElem?_map, Array.getElem?_range, hisz]
                simp only [hlt, if_true, Option.map_some, Option.getD_some]
                rw [hs]
                have e2 : (j * z.length + o') % z.length = o' := by rw [Nat.mul_comm, Nat.mul_add_mod, Nat.mod_eq_of_lt ho']
                rw [e2]
                have := hcells o' x0 hx0
                rw [Array.getD_eq_getD_getElem?, Array.getElem?_eq_getElem (show o' < v.cells.size by omega)] at this
                rw [getElem!_pos v.cells o' (by omega)]
                simpa using this
              rw [hval]; exact Kc.rel _ _ _ _ _ x0) (0, 0) rfl
          rw [hlen] at z1
          refine .value h1 ?_ z1
          simp only [execOp, ho, opdB_eval hx a, opdB_eval hy a, en, em]
          exact run_value hrun0
        · cases he
      · cases h2
    · cases h2
  · cases h2

theorem splC_len {α : Type} {row : List α} {o : Nat} {cs : List α} (h : o + cs.length ≤ row.length) : (splC row o cs).length = row.length := by
  simp [splC]; omega
theorem splC_get {α : Type} {row : List α} {o : Nat} {cs : List α} (h : o + cs.length ≤ row.length) {j : Nat} {c : α} (hj : (splC row o cs)[j]? = some c) :
    (o ≤ j ∧ j < o + cs.length ∧ cs[j - o]? = some c) ∨ ((j < o ∨ o + cs.length ≤ j) ∧ row[j]? = some c) := by
  unfold splC at hj
  rw [List.append_assoc, List.getElem?_append] at hj
  have htl : (row.take o).length = o := by simp; omega
  rw [htl] at hj
  split at hj
  · rename_i hlt
    rw [List.getElem?_take, if_pos hlt] at hj
    exact .inr ⟨.inl hlt, hj⟩
  · rename_i hge
    rw [List.getElem?_append] at hj
    split at hj
    · rename_i hlt
      exact .inl ⟨by omega, by omega, hj⟩
    · rename_i hge2
      rw [List.getElem?_drop] at hj
      refine .inr ⟨.inr (by omega), ?_⟩
      rwa [show o + cs.length + (j - o - cs.length) = j by omega] at hj

theorem build_fill {places : List (Nat × Nat)} : ∀ (ps : List (Nat × Operand)) (parts : List (Nat × Nat × Opd)) (S S' : St) (g : Ghost) (row row' : List Cl) (cells : Array Value), partsB places ps parts = true →
    Rel N w0 g0 ar S a.tmps w g → cells.size = row.length → (∀ j c, row[j]? = some c → ClR S.k g w 19000 j c (cells.getD j undef)) → buildRow S parts row = some (row', S') →
    ∃ g' cells', Instr.fill (places.toArray[·]?) cells (ps.map fun (i, x) => (i, a.eval x)) = some cells' ∧ Rel N w0 g0 ar S' a.tmps w g' ∧ cells'.size = row'.length ∧ ∀ j c, row'[j]? = some c → ClR S'.k g' w 19000 j c (cells'.getD j undef) := by
  intro ps
  induction ps with
  | nil =>
    intro parts S S' g row row' cells hp hr hs hcl hb
    cases parts with
    | nil => simp only [buildRow, Option.some.injEq, Prod.mk.injEq] at hb; obtain ⟨rfl, rfl⟩ := hb; exact ⟨g, cells, rfl, hr, hs, hcl⟩
    | cons p m => simp [partsB] at hp
  | cons q l ih =>
    obtain ⟨i, x⟩ := q
    intro parts S S' g row row' cells hp hr hs hcl hb
    cases parts with
    | nil => simp [partsB] at hp
    | cons p m =>
      obtain ⟨off, n, y⟩ := p
      simp only [partsB, Bool.and_eq_true, beq_iff_eq] at hp
      obtain ⟨⟨h1, h2⟩, h3⟩ := hp
      simp only [buildRow] at hb
      split at hb
      · rename_i agg cs S1 hrs
        split at hb
        · rename_i hc
          obtain ⟨hcn, hle⟩ := hc
          obtain ⟨g1, k1, k2, k3⟩ := rsv_sound hr hrs off
          obtain ⟨q1, q2⟩ := k2.at
          have hle' : off + cs.length ≤ row.length := by omega
          have hsz2 : (arrSet cells off (y.val a.tmps).cells.toList).size = (splC row off cs).length := by rw [arrSet_size, splC_len hle']; exact hs
          obtain ⟨g', cells', e1, e2, e3, e4⟩ := ih m S1 S' g1 (splC row off cs) row' (arrSet cells off (y.val a.tmps).cells.toList) h3 k1 hsz2 (fun j c hj => by
            rcases splC_get hle' hj with ⟨m1, m2, m3⟩ | ⟨m1, m2⟩
            · have hin := arrSet_in (y.val a.tmps).cells.toList off cells (j - off) (by simp; omega) (by simp; omega)
              rw [show off + (j - off) = j by omega] at hin
              rw [Array.getD_eq_getD_getElem?, hin, Array.getElem?_toList, ← Array.getD_eq_getD_getElem?]
              have := q2 (j - off) c m3
              rwa [show off + (j - off) = j by omega] at this
            · rw [getD_of_getElem? (arrSet_out _ _ _ _ (by simp; omega))]
              exact k3.st j c _ (by omega) (hcl j c m2)) hb
          refine ⟨g', cells', ?_, e2, e3, e4⟩
          simp only [List.map_cons, opdB_eval h1 a]
          rw [fill_cons (off := off) (sz := n) (by simpa using h2) (by omega) (by omega)]
          exact e1
        · cases hb
      · cases hb

theorem build_sound {d : Nat} {z : List Kc} {parts : List (Nat × Nat × Opd)} (hfit : EOp.fit P o (.build d z parts) = true) (hN : N ≤ 10000) (hd : d < N) (h : Rel N w0 g0 ar S a.tmps w g) (he : eev S (.build d z parts) = some (c, S')) (hc : c) : Runs P N w0 g0 ar o a w S' := by
  simp only [EOp.fit, Bool.and_eq_true, beq_iff_eq] at hfit
  obtain ⟨h1, h2⟩ := hfit
  split at h2
  · rename_i t ps ho
    simp only [Bool.and_eq_true] at h2
    obtain ⟨hz, h2⟩ := h2
    obtain ⟨ti, zv, hi, hz0, _, hs, hcells⟩ := zeroB_cells hz
    split at h2
    · rename_i fs hu
      split at h2
      · rename_i places hpl
        simp only [eev, Option.map_eq_some_iff, Prod.mk.injEq] at he
        obtain ⟨⟨row, S1⟩, hb, _, rfl⟩ := he
        obtain ⟨g1, cells', e1, k1, k2, k3⟩ := build_fill (a := a) ps.toList parts S S1 g (kc z) row zv.cells h2 h (by simp [kc, hs]) (fun j c hj => by
          obtain ⟨x, hx, rfl⟩ := kc_get hj
          rw [hcells j x hx]; exact Kc.rel _ _ _ _ _ x) hb
        have hbuilt : P.built t (ps.map fun (i, x) => (i, a.eval x)).toList = some cells' := by
          unfold Program.built
          simp only [hi, hu, hz0, hpl, Array.toList_map]
          exact e1
        have hrun : (execOp a.eval o).run P w = .ok (.value (.agg cells')) w := by
          simp only [execOp, ho]
          exact run_seq (P := P) _ (fun v => pure (Next.value v)) w (run_build w t _ cells' hbuilt)
        obtain ⟨g2, z1, _⟩ := k1.putRow (base := 0) (agg := true) (row := row) (v := .agg cells') hd (by omega) ⟨cells', rfl, k2, fun j c hj => by rw [Nat.zero_add]; exact k3 j c hj⟩
        exact .value h1 hrun z1
      · cases h2
    · cases h2
  · cases h2
end Go.Eng

namespace Go.Eng
variable {P : Program} {N : Nat} {w0 : World} {g0 : Ghost} {ar tm : Array Value} {S S' : St} {w w' : World} {g g' : Ghost} {o : Oper} {a : Act} {c : Prop}

theorem run_store_at {t : TypeId} {b k n : Nat} {v : Value} {arr : Array Value} {e : TypeId} (hb : w.heap[b]? = some (.cells arr e (0, 0))) (hs : szOf P t = some n) (hn : v.cells.size = n) (hk : k + n ≤ arr.size)
    (h1 : ∀ u ∈ v.cells.toList, u.oneCell' = true) : (Instr.storeAt t (.pointer (some ⟨b, k, none⟩)) v).run P w = .ok () (w.setCells b k v.cells.toList) := by
  have hst := run_storeCells_cells (P := P) b k v.cells.toList 0 w (fun j hj => by
      simp only [Nat.add_zero]
      have hj' : j < n := by simpa [hn] using hj
      rw [(cell_eq (v := arr.getD (k + j) undef)).2 ⟨arr, e, (0, 0), hb, by rw [Array.getD_eq_getD_getElem?, Array.getElem?_eq_getElem (by omega)]; rfl⟩]; rfl)
    (fun j hj => by simp [World.frozen?, hb]) h1
  simp only [Nat.add_zero] at hst
  show (storeVar t ⟨b, k, none⟩ v).run P w = _
  unfold storeVar
  rw [run_seq _ _ _ (run_sizeOf hs w)]
  rw [if_neg (by simpa using hn)]
  exact hst

/-- Memory is written where a label lies that turns; what stands ready may go there. -/
theorem write_rel (h : Rel N w0 g0 ar S tm w g) {S' : St} {ρ : Lab → Option Lab} {D : Key → Prop} (hρ : Ren g ρ D) (hK : ∀ k ∈ S.k, k ∈ S'.k) (hDK : ∀ k, D k → k ∈ S'.k ∨ 19000 ≤ k.1)
    {b k : Nat} {vs : List Value} {arr : Array Value} {e : TypeId} (hb : w.heap[b]? = some (.cells arr e (0, 0))) (hM : ∀ j, j < vs.length → ∃ l, g b (k + j) = some l ∧ ¬ Sp l ∧ D (l.1, l.2.1))
    (hlab : ∀ b k l, g b k = some l → ∀ m, ρ l = some m → Sp m ∨ 19000 ≤ m.1 ∨ hasL (S'.get m.1) m.2.1 m.2.2 = true)
    (hhi : ∀ v, 19000 ≤ v → S'.get v = .any) (hslot : ∀ v row, v < 10000 → S'.get v ≠ .mem row)
    (hv : Chg S.k S'.k D g (gren ρ g) w (w.setCells b k vs) (fun b' k' => b' = b ∧ k ≤ k' ∧ k' < k + vs.length) →
      ∀ v, (S'.get v = S.get v ∧ ∀ o, ownAt (S.get v) o = true → ¬ D (v, o)) ∨ VarR S'.k (gren ρ g) (w.setCells b k vs) tm ar v (S'.get v)) :
    Rel N w0 g0 ar S' tm (w.setCells b k vs) (gren ρ g) := by
  obtain ⟨_, _, q3, _⟩ := setCells_heap b e (0, 0) vs k w arr hb
  have hMl : ∀ b' k', (b' = b ∧ k ≤ k' ∧ k' < k + vs.length) → ∃ l, g b' k' = some l ∧ ¬ Sp l ∧ D (l.1, l.2.1) := by
    rintro b' k' ⟨rfl, h1, h2⟩
    have := hM (k' - k) (by omega)
    rwa [show k + (k' - k) = k' by omega] at this
  have hchg : Chg S.k S'.k D g (gren ρ g) w (w.setCells b k vs) (fun b' k' => b' = b ∧ k ≤ k' ∧ k' < k + vs.length) := {
    st := Step.setCells hb
    K := hK
    DK := hDK
    old := h.old
    none := fun b' k' hb' hn => ⟨fun hm => (by obtain ⟨l, hl, _⟩ := hMl b' k' hm; rw [hn] at hl; cases hl), gren_none hn⟩
    un := fun b' k' l hl hu => ⟨fun hm => by
      obtain ⟨l', h1, h2, h3⟩ := hMl b' k' hm
      rw [hl] at h1; injection h1 with h1; subst h1
      rcases hu with hu | hu
      · exact h2 hu
      · exact hu h3, gren_of hl (hρ.un b' k' l hl hu)⟩
    root := fun b' k' r o hl => gren_of hl (hρ.root r o) }
  refine h.chg hchg h.size (fun b' k' _ hm => ?_) (fun b' k' l hs hl => ?_) (fun b1 k1 b2 k2 l h1 h2 => ?_) (fun b' k' l hl => ?_) (fun b' k' l hl => ?_) hhi hslot (fun v => ?_)
  · obtain ⟨l, h1, h2, _⟩ := hMl b' k' hm; exact ⟨l, h1, h2⟩
  · obtain ⟨l', h1, h2⟩ := gren_some hl
    rw [h1, hρ.sp l' l h2 hs]
  · obtain ⟨l1, a1, a2⟩ := gren_some h1
    obtain ⟨l2, b1, b2⟩ := gren_some h2
    rw [hρ.inj _ _ _ _ l1 l2 l a1 b1 a2 b2] at a1
    exact h.inj _ _ _ _ _ a1 b1
  · obtain ⟨l', h1, _⟩ := gren_some hl; rw [q3]; exact h.old b' k' l' h1
  · obtain ⟨l', h1, h2⟩ := gren_some hl; exact hlab b' k' l' h1 l h2
  · rcases hv hchg v with ⟨h1, h2⟩ | hv
    · exact .inl ⟨rfl, h1, h2⟩
    · exact .inr hv

/-- A staged tree, where memory is written that is not the tree's. -/
theorem plc_tr {base n : Nat} {ow : Nat → Bool} {δ : Nat → Lab} {drop : Lab → Prop} {K K' : List Key} {D : Key → Prop} {M : Nat → Nat → Prop}
    (hc : Chg K K' D g (gren (plL base n ow δ drop) g) w w' M) (hM : ∀ b k l, M b k → g b k = some l → l.1 < 19000) {j : Nat} (hj : j < n) {t : T} (ho : ownC (.ow t) = true → ow j = true) {v : Value} (h : TR g w 19000 (base + j) [] t v) :
    TR (gren (plL base n ow δ drop) g) w' (δ j).1 (δ j).2.1 (δ j).2.2 t v := by
  cases hp : ownC (.ow t) with
  | false => exact TR.elsewhere h hc.st hc.none hp
  | true =>
    exact TR.map h hc.st hc.none _ fun b k q hb hq hg => ⟨fun hm => by have := hM b k _ hm hg; omega, gren_of hg (plL_mv hj (by simpa using hq) (ho hp))⟩

/-- Into memory behind a pointer. -/
theorem storeMem_rel (h : Rel N w0 g0 ar S tm w g) {r o0 n b k : Nat} {R row : List Cl} {vs : List Value} (hr : r < 19000) (hS : S.get r = .mem R) (hgk : g b k = some (r, o0, [])) (hn : row.length = n) (hn0 : 0 < n) (hle : o0 + n ≤ R.length) (hvs : vs.length = n)
    (hst : ∀ j c, row[j]? = some c → ClR S.k g w 19000 j c (vs.getD j undef)) :
    ∃ g', Rel N w0 g0 ar ((S.kl ((List.range' o0 n).map fun j => (r, j))).put r (.mem (splC R o0 row))) tm (w.setCells b k vs) g' ∧ ∃ arr e, w.heap[b]? = some (.cells arr e (0, 0)) ∧ k + n ≤ arr.size := by
  have hv := h.vars r
  rw [hS] at hv
  obtain ⟨b', k0, arr, e, hb, hsz, hcell⟩ := hv
  obtain ⟨l1, _⟩ := hcell o0 _ (List.getElem?_eq_getElem (show o0 < R.length by omega))
  obtain ⟨rfl, rfl⟩ := h.inj _ _ _ _ _ hgk l1
  let δ : Nat → Lab := fun j => (r, o0 + j, [])
  let drop : Lab → Prop := fun l => l.1 = r ∧ o0 ≤ l.2.1 ∧ l.2.1 < o0 + n ∧ l.2.2 ≠ []
  let D : Key → Prop := fun k => (k.1 = r ∧ o0 ≤ k.2 ∧ k.2 < o0 + n) ∨ 19000 ≤ k.1
  have hplc : Plc g n δ drop := {
    dj := fun j j' q q' _ _ _ _ e => by
      simp only [app3, δ, Prod.mk.injEq, true_and, List.nil_append] at e
      exact ⟨by omega, e.2⟩
    cov := fun j q b k hj hq _ => ⟨rfl, by simp only [app3, δ]; omega, by simp only [app3, δ]; omega, by simpa [app3, δ] using hq⟩
    lo := fun _ _ => hr
    dr := fun l h => ⟨h.2.2.2, by rw [h.1]; exact hr⟩ }
  have hρ : Ren g (plL 0 n (ownF row) δ drop) D := plL_ren hplc (fun j _ => .inr (by simp)) (fun b k l _ hd => .inl ⟨hd.1, hd.2.1, hd.2.2.1⟩)
  refine ⟨gren (plL 0 n (ownF row) δ drop) g, ?_, arr, e, hb, by omega⟩
  have hget : ∀ u, ((S.kl ((List.range' o0 n).map fun j => (r, j))).put r (.mem (splC R o0 row))).get u = if u = r then .mem (splC R o0 row) else S.get u := fun u => by rw [St.get_put, St.get_kl]
  have hlen : (splC R o0 row).length = R.length := splC_len (by omega)
  refine write_rel h hρ (fun k hk => by rw [St.k_put, St.k_kl]; exact List.mem_append_right _ hk) (fun q hq => ?_) hb (fun j hj => ?_) (fun b k l hl m hm => ?_) (fun v hv => ?_) (fun v row' hv => ?_) (fun hchg v => ?_)
  · rcases hq with ⟨e1, e2, e3⟩ | hq
    · left; rw [St.k_put, St.k_kl]; refine List.mem_append_left _ ?_
      simp only [List.mem_map]
      refine ⟨q.2, by rw [List.mem_range'_1]; omega, ?_⟩
      obtain ⟨a, b⟩ := q; simp only at e1; rw [← e1]
    · exact .inr hq
  · rw [hvs] at hj
    obtain ⟨q1, _⟩ := hcell (o0 + j) _ (List.getElem?_eq_getElem (show o0 + j < R.length by omega))
    rw [← Nat.add_assoc] at q1
    exact ⟨_, q1, by rintro (h | h) <;> simp only at h <;> omega, .inl ⟨rfl, by simp only; omega, by simp only; omega⟩⟩
  · rcases plL_some hm with ⟨j, q, hj, hq, ho, rfl, rfl⟩ | ⟨rfl, h3, _⟩
    · right; right
      simp only [app3, δ]
      rw [hget, if_pos rfl]
      cases q with
      | nil => exact absurd rfl hq
      | cons x q => simp [hasL, ownAt, hlen]; omega
    · rcases h.lab b k m hl with h4 | h4 | h4
      · exact .inl h4
      · exact .inr (.inl h4)
      · right; right
        rw [hget]
        split
        · rename_i e; rw [e, hS] at h4; cases hq : m.2.2 <;> rw [hq] at h4 <;> simpa [hasL, ownAt, hlen] using h4
        · exact h4
  · rw [hget, if_neg (by omega)]; exact h.hi v hv
  · rw [hget]; split
    · rename_i e; subst e; exact absurd hS (h.slot v R hv)
    · exact h.slot v row' hv
  · rw [hget]
    by_cases hv : v = r
    · subst hv
      right
      rw [if_pos rfl]
      obtain ⟨q1, _, _, _⟩ := setCells_heap b e (0, 0) vs (k0 + o0) w arr hb
      refine ⟨b, k0, _, e, q1, by rw [arrSet_size, hlen]; exact hsz, fun j c hj => ?_⟩
      rcases splC_get (by omega) hj with ⟨m1, m2, m3⟩ | ⟨m1, m2⟩
      · obtain ⟨l2, _⟩ := hcell j _ (List.getElem?_eq_getElem (show j < R.length by omega))
        refine ⟨hchg.root _ _ _ _ l2, ?_⟩
        have hin := arrSet_in vs (k0 + o0) arr (j - o0) (by omega) (by omega)
        rw [show k0 + o0 + (j - o0) = k0 + j by omega] at hin
        have hval : (arrSet arr (k0 + o0) vs).getD (k0 + j) undef = vs.getD (j - o0) undef := by
          rw [Array.getD_eq_getD_getElem?, hin, List.getD_eq_getElem?_getD]
        rw [hval]
        have hs0 := hst (j - o0) c m3
        cases c with
        | vw pl ks t => exact ClR.chg (r := v) (o := j) hs0 hchg (by simp [ownC])
        | ow t =>
          have := plc_tr (base := 0) (j := j - o0) (t := t) (v := vs.getD (j - o0) undef) hchg (fun b' k' l hm hl => by
            obtain ⟨rfl, x1, x2⟩ := hm
            have := hcell (k' - k0) _ (List.getElem?_eq_getElem (show k' - k0 < R.length by omega))
            rw [show k0 + (k' - k0) = k' by omega] at this
            rw [this.1] at hl; injection hl with hl; subst hl; exact hr) (by omega) (fun hp => by simp [ownF, m3, hp]) (by rw [Nat.zero_add]; exact hs0)
          simp only [δ] at this
          rw [show o0 + (j - o0) = j by omega] at this
          exact this
      · obtain ⟨l2, l3⟩ := hcell j c m2
        refine ⟨hchg.root _ _ _ _ l2, ?_⟩
        rw [getD_of_getElem? (arrSet_out _ _ _ _ (by omega))]
        refine l3.chg hchg fun _ hd => ?_
        rcases hd with ⟨_, x1, x2⟩ | hd
        · simp only at x1 x2; omega
        · simp only at hd; omega
    · left
      rw [if_neg hv]
      refine ⟨rfl, fun o ho hd => ?_⟩
      rcases hd with hd | hd
      · exact hv hd.1
      · rw [h.hi v hd] at ho; cases ho

theorem setRow_len (rows : List Row) (i o : Nat) (cs : Row) : (setRow rows i o cs).length = rows.length := by simp [setRow]
theorem setRow_get {rows : List Row} {sz : Nat} (hl : ∀ r ∈ rows, r.length = sz) {i o : Nat} {cs : Row} (h : o + cs.length ≤ sz) {i' o' : Nat} {c : T} (hg : get2 (setRow rows i o cs) i' o' = some c) :
    (i' = i ∧ o ≤ o' ∧ o' < o + cs.length ∧ cs[o' - o]? = some c) ∨ ((i' ≠ i ∨ o' < o ∨ o + cs.length ≤ o') ∧ get2 rows i' o' = some c) := by
  unfold get2 setRow at *
  rw [List.getElem?_modify] at hg
  by_cases hi : i = i'
  · subst hi
    simp only [if_true] at hg
    cases hr : rows[i]? with
    | none => simp [hr] at hg
    | some r =>
      have hr2 : ((fun a => splC a o cs) <$> some r) = some (splC r o cs) := rfl
      simp only [hr, hr2, Option.bind_some] at hg
      simp only [Option.bind_some]
      have hrl : r.length = sz := hl r (List.mem_of_getElem? hr)
      rcases splC_get (by omega) hg with ⟨m1, m2, m3⟩ | ⟨m1, m2⟩
      · exact .inl ⟨trivial, m1, m2, m3⟩
      · exact .inr ⟨.inr m1, m2⟩
  · simp only [if_neg hi] at hg
    exact .inr ⟨.inl (Ne.symm hi), by simpa using hg⟩
theorem setRow_rows {rows : List Row} {sz : Nat} (hl : ∀ r ∈ rows, r.length = sz) {i o : Nat} {cs : Row} (h : o + cs.length ≤ sz) : ∀ r ∈ setRow rows i o cs, r.length = sz := by
  intro r hr
  unfold setRow at hr
  obtain ⟨j, hj, rfl⟩ := List.getElem_of_mem hr
  rw [List.getElem_modify]
  split
  · rw [splC_len (by rw [hl _ (List.getElem_mem _)]; exact h)]; exact hl _ (List.getElem_mem _)
  · exact hl _ (List.getElem_mem _)

/-- Into an element of a slice that is owned. -/
theorem storeEl_rel (h : Rel N w0 g0 ar S tm w g) {r o0 i oo n b k sz : Nat} {p : Path} {t0 : T} {md : Md} {rows : List Row} {ts : Row} {vs : List Value} (hmd : md ≠ .fro) (hr : r < 19000) (ht0 : treeAt (S.get r) o0 = some t0) (hnd : ndT p t0 = some (.sl md sz rows))
    (hgk : ∀ j, j < n → g b (k + j) = some (r, o0, p ++ [(i, oo + j)])) (hn : ts.length = n) (hn0 : 0 < n) (hi : i < rows.length) (hle : oo + n ≤ sz) (hvs : vs.length = n)
    (hst : ∀ j t, ts[j]? = some t → TR g w 19000 j [] t (vs.getD j undef)) :
    ∃ g', Rel N w0 g0 ar ((S.put r (modAt (S.get r) o0 (mdT p (.sl md sz (setRow rows i oo ts)) t0))).kl [(r, o0)]) tm (w.setCells b k vs) g' ∧ ∃ arr e, w.heap[b]? = some (.cells arr e (0, 0)) ∧ k + n ≤ arr.size := by
  let δ : Nat → Lab := fun j => (r, o0, p ++ [(i, oo + j)])
  let drop : Lab → Prop := fun l => ∃ j q, j < n ∧ q ≠ [] ∧ l = app3 (δ j) q
  let D : Key → Prop := fun k => k = (r, o0) ∨ 19000 ≤ k.1
  let ow : Nat → Bool := fun j => match ts[j]? with | some t => ownC (.ow t) | none => false
  have hplc : Plc g n δ drop := {
    dj := fun j j' q q' _ _ _ _ e => by
      simp only [app3, δ, Prod.mk.injEq, true_and, List.append_assoc, List.append_cancel_left_eq, List.cons_append, List.nil_append, List.cons.injEq] at e
      exact ⟨by omega, e.2⟩
    cov := fun j q b k hj hq _ => ⟨j, q, hj, hq, rfl⟩
    lo := fun _ _ => hr
    dr := fun l h => by obtain ⟨j, q, hj, hq, rfl⟩ := h; exact ⟨by simp [app3, hq], hr⟩ }
  have hρ : Ren g (plL 0 n ow δ drop) D := plL_ren hplc (fun j _ => .inr (by simp)) (fun b k l _ hd => by obtain ⟨j, q, _, _, rfl⟩ := hd; exact .inl rfl)
  obtain ⟨x, k1, k2⟩ := VarR.node (h.vars r) ht0
  obtain ⟨v1, z1, z2⟩ := TR.zip p [] t0 _ x k1 hnd
  rw [List.nil_append] at z1
  -- the node's block
  have hnode : ∃ off cap arr e, w.heap[b]? = some (.cells arr e (0, 0)) ∧ v1 = .slice (some ⟨b, off, none⟩) rows.length cap ∧ (∀ r ∈ rows, r.length = sz) ∧ off + bnd md cap rows.length * sz ≤ arr.size ∧ rows.length ≤ cap ∧ 0 < sz ∧ rows.length ≤ 281474976710656 ∧
      (∀ i' o', i' < bnd md cap rows.length → o' < sz → g b (off + i' * sz + o') = some (r, o0, p ++ [(i', o')])) ∧ (∀ i' o' c, get2 rows i' o' = some c → TR g w r o0 (p ++ [(i', o')]) c (arr.getD (off + i' * sz + o') undef)) ∧ k = off + i * sz + oo := by
    cases z1 with
    | fro => exact absurd rfl hmd
    | nil => simp at hi
    | own _ _ _ b0 off cap _ arr e _ hb hl hs hle' h0 hnn hlab hc =>
      have hbd := bnd_ge (md := md) hle'
      have l1 := hgk 0 hn0
      have l2 := hlab i oo (by omega) (by omega)
      obtain ⟨rfl, e2⟩ := h.inj _ _ _ _ _ l1 l2
      exact ⟨off, cap, arr, e, hb, rfl, hl, hs, hle', h0, hnn, hlab, hc, by simpa using e2⟩
  obtain ⟨off, cap, arr, e, hb, rfl, hl, hs, hle', h0, hnn, hlab, hc, rfl⟩ := hnode
  have hbd := bnd_ge (md := md) hle'
  have hidx : i * sz + sz ≤ bnd md cap rows.length * sz := by
    have := Nat.mul_le_mul_right sz (show i + 1 ≤ bnd md cap rows.length by omega)
    rwa [Nat.add_mul, Nat.one_mul] at this
  refine ⟨gren (plL 0 n ow δ drop) g, ?_, arr, e, hb, by omega⟩
  have hget : ∀ u, ((S.put r (modAt (S.get r) o0 (mdT p (.sl md sz (setRow rows i oo ts)) t0))).kl [(r, o0)]).get u = if u = r then modAt (S.get r) o0 (mdT p (.sl md sz (setRow rows i oo ts)) t0) else S.get u := fun u => by rw [St.get_kl, St.get_put]
  have hown : ownC (.ow (mdT p (.sl md sz (setRow rows i oo ts)) t0)) = true := by
    cases p with
    | nil => cases md <;> first | rfl | exact absurd rfl hmd
    | cons y p =>
      cases hk : t0.kids with
      | none => simp [ndT, hk] at hnd
      | some rows' =>
        obtain ⟨md', sz', rfl, hmd'⟩ := T.kids_some hk
        cases md' <;> simp [mdT, ownC] at hmd' ⊢
  refine write_rel h hρ (fun k hk => by rw [St.k_kl]; exact List.mem_append_right _ hk) (fun q hq => ?_) hb (fun j hj => ?_) (fun b1 k1 l hg m hm => ?_) (fun v hv => ?_) (fun v row' hv => ?_) (fun hchg v => ?_)
  · rcases hq with rfl | hq
    · left; rw [St.k_kl]; simp
    · exact .inr hq
  · exact ⟨_, hgk j (by omega), by rintro (h | h) <;> simp only at h <;> omega, .inl rfl⟩
  · rcases plL_some hm with ⟨j, q, hj, hq, ho, rfl, rfl⟩ | ⟨rfl, h3, _⟩
    · right; right
      simp only [app3, δ]
      rw [hget, if_pos rfl]
      have : hasL (S.get r) o0 (p ++ [(i, oo + j)] ++ q) = true := by
        rcases h.lab b _ _ (hgk j hj) with h4 | h4 | h4
        · rcases h4 with h4 | h4 <;> simp only at h4 <;> omega
        · simp only at h4; omega
        · have h5 := hasL_own h4
          simp only at h5
          cases hpp : p ++ [(i, oo + j)] ++ q with
          | nil => simp at hpp
          | cons y s => cases ha : S.get r <;> rw [ha] at h5 <;> exact h5
      exact hasL_modAt ht0 this fun _ _ => hown
    · rcases h.lab b1 k1 m hg with h4 | h4 | h4
      · exact .inl h4
      · exact .inr (.inl h4)
      · right; right
        rw [hget]
        split
        · rename_i e; rw [e] at h4; exact hasL_modAt ht0 h4 fun _ _ => hown
        · exact h4
  · rw [hget, if_neg (by omega)]; exact h.hi v hv
  · rw [hget]; split
    · rename_i e; subst e; exact modAt_mem (h.slot v · hv) row'
    · exact h.slot v row' hv
  · rw [hget]
    by_cases hv : v = r
    · subst hv
      right
      rw [if_pos rfl]
      obtain ⟨q1, _, _, _⟩ := setCells_heap b e (0, 0) vs (off + i * sz + oo) w arr hb
      have hMlab : ∀ b' k' l, (b' = b ∧ off + i * sz + oo ≤ k' ∧ k' < off + i * sz + oo + vs.length) → g b' k' = some l → ∃ j, j < n ∧ l = (v, o0, p ++ [(i, oo + j)]) := fun b' k' l hm hl => by
        obtain ⟨rfl, x1, x2⟩ := hm
        have := hgk (k' - (off + i * sz + oo)) (by omega)
        rw [show off + i * sz + oo + (k' - (off + i * sz + oo)) = k' by omega] at this
        rw [this] at hl; injection hl with hl
        exact ⟨_, by omega, hl.symm⟩
      have hkeep : ∀ b' k' s, g b' k' = some (v, o0, s) → (∀ j, j < n → ∀ q, s ≠ p ++ [(i, oo + j)] ++ q) → ¬ (b' = b ∧ off + i * sz + oo ≤ k' ∧ k' < off + i * sz + oo + vs.length) ∧ gren (plL 0 n ow δ drop) g b' k' = some (v, o0, s) := fun b' k' s hg hns => by
        refine ⟨fun hm => ?_, gren_of hg (plL_fix (by simp only; omega) fun hd => ?_)⟩
        · obtain ⟨j, hj, hl⟩ := hMlab _ _ _ hm hg
          simp only [Prod.mk.injEq, true_and] at hl
          exact hns j hj [] (by simpa using hl)
        · obtain ⟨j, q, hj, hq, hl⟩ := hd
          simp only [app3, δ, Prod.mk.injEq, true_and] at hl
          exact hns j hj q hl
      have hnew : TR (gren (plL 0 n ow δ drop) g) (w.setCells b (off + i * sz + oo) vs) v o0 p (.sl md sz (setRow rows i oo ts)) (.slice (some ⟨b, off, none⟩) rows.length cap) := by
        have := TR.own (g := gren (plL 0 n ow δ drop) g) (w := w.setCells b (off + i * sz + oo) vs) (r := v) (o := o0) p md (setRow rows i oo ts) b off cap sz _ e hmd q1 (setRow_rows hl (by omega)) (by rw [arrSet_size, setRow_len]; exact hs) (by rw [setRow_len]; exact hle') h0 (by rw [setRow_len]; exact hnn)
          (fun i' o' hi' ho' => by
            rw [setRow_len] at hi'
            have := hlab i' o' hi' ho'
            refine gren_of this (plL_fix (by simp only; omega) fun hd => ?_)
            obtain ⟨j, q, hj, hq, hl⟩ := hd
            simp only [app3, δ, Prod.mk.injEq, true_and, List.append_assoc, List.append_cancel_left_eq, List.cons_append, List.nil_append, List.cons.injEq] at hl
            exact hq hl.2.symm)
          (fun i' o' c' hgc => by
            rcases setRow_get hl (by omega) hgc with ⟨rfl, m1, m2, m3⟩ | ⟨m1, m2⟩
            · have hin := arrSet_in vs (off + i' * sz + oo) arr (o' - oo) (by omega) (by omega)
              rw [show off + i' * sz + oo + (o' - oo) = off + i' * sz + o' by omega] at hin
              have hval : (arrSet arr (off + i' * sz + oo) vs).getD (off + i' * sz + o') undef = vs.getD (o' - oo) undef := by
                rw [Array.getD_eq_getD_getElem?, hin, List.getD_eq_getElem?_getD]
              rw [hval]
              have hs0 := hst (o' - oo) c' m3
              have := plc_tr (base := 0) (j := o' - oo) (t := c') hchg (fun b' k' l hm hl => by
                obtain ⟨j, hj, rfl⟩ := hMlab _ _ _ hm hl; exact hr) (by omega) (fun hp => by simp only [ow, m3]; exact hp) (by rw [Nat.zero_add]; exact hs0)
              simp only [δ] at this
              rw [show oo + (o' - oo) = o' by omega] at this
              exact this
            · obtain ⟨hi', ho'⟩ := get2_lt m2 hl
              have hout : (arrSet arr (off + i * sz + oo) vs).getD (off + i' * sz + o') undef = arr.getD (off + i' * sz + o') undef := by
                refine getD_of_getElem? (arrSet_out _ _ _ _ ?_)
                rcases Nat.lt_trichotomy i' i with h9 | h9 | h9
                · left
                  have := Nat.mul_le_mul_right sz (show i' + 1 ≤ i by omega)
                  rw [Nat.add_mul, Nat.one_mul] at this
                  omega
                · subst h9; omega
                · right
                  have := Nat.mul_le_mul_right sz (show i + 1 ≤ i' by omega)
                  rw [Nat.add_mul, Nat.one_mul] at this
                  omega
              rw [hout]
              refine (hc i' o' c' m2).map hchg.st hchg.none _ fun b' k' q _ hq hg => ?_
              refine hkeep b' k' _ hg fun j hj q' e => ?_
              simp only [List.append_assoc, List.append_cancel_left_eq, List.cons_append, List.nil_append, List.cons.injEq, Prod.mk.injEq] at e
              omega)
        rw [setRow_len] at this
        exact this
      have hnew2 := z2 (gren (plL 0 n ow δ drop) g) _ _ (.sl md sz (setRow rows i oo ts)) hchg.st hchg.none (fun b' k' s _ hs' hg hns => by
        rw [List.nil_append] at hg ⊢
        exact hkeep b' k' s hg fun j hj q e => hns ([(i, oo + j)] ++ q) (by simp) (by rw [e, List.append_assoc])) (by rw [List.nil_append]; exact hnew)
      exact k2 _ _ _ _ _ _ hchg (by
        rintro q (rfl | hq)
        · exact .inl rfl
        · exact .inr (by omega)) (fun b' k' hg hm => by
        obtain ⟨j, hj, e⟩ := hMlab _ _ _ hm hg
        simp at e) hnew2
    · left
      rw [if_neg hv]
      refine ⟨rfl, fun o ho hd => ?_⟩
      rcases hd with hd | hd
      · injection hd with hd _; exact hv hd
      · rw [h.hi v hd] at ho; cases ho

theorem st_sound {x1 x2 : Opd} {n : Nat} (hfit : EOp.fit P o (.st x1 x2 n) = true) (h : Rel N w0 g0 ar S a.tmps w g) (he : eev S (.st x1 x2 n) = some (c, S')) (hc : c) : Runs P N w0 g0 ar o a w S' := by
  simp only [EOp.fit, Bool.and_eq_true, beq_iff_eq, decide_eq_true_eq] at hfit
  obtain ⟨⟨h1, hn0⟩, h2⟩ := hfit
  split at h2
  · rename_i t b1 y ho
    simp only [Bool.and_eq_true, beq_iff_eq] at h2
    obtain ⟨⟨h3, h4⟩, h5⟩ := h2
    have hput : a.put o.dst undef = a := by rw [h1]; rfl
    -- how the store runs
    have hrun : ∀ (b k : Nat) arr e, x1.val a.tmps = .pointer (some ⟨b, k, none⟩) → w.heap[b]? = some (.cells arr e (0, 0)) → (x2.val a.tmps).cells.size = n → k + n ≤ arr.size → (∀ u ∈ (x2.val a.tmps).cells.toList, u.oneCell' = true) →
        (execOp a.eval o).run P w = .ok .skip (w.setCells b k (x2.val a.tmps).cells.toList) := by
      intro b k arr e hv hb hs hle hone
      simp only [execOp, ho, opdB_eval h3 a, opdB_eval h4 a, hv]
      refine run_seq (P := P) _ (fun _ => pure Next.skip) w (a := ()) ?_
      exact run_store_at hb h5 hs hle hone
    have hones : ∀ {K : List Key} {g : Ghost} {agg : Bool} {row : List Cl}, ValR K g w 19000 0 agg row (x2.val a.tmps) → ∀ u ∈ (x2.val a.tmps).cells.toList, u.oneCell' = true := by
      intro K g agg row hv u hu
      obtain ⟨q1, q2⟩ := hv.at
      obtain ⟨j, hj, e⟩ := List.getElem_of_mem hu
      have hj' : j < row.length := by rw [← q1]; simpa using hj
      have := (q2 j _ (List.getElem?_eq_getElem hj')).one
      rw [Array.getD_eq_getD_getElem?, ← Array.getElem?_toList, List.getElem?_eq_getElem hj, e] at this
      exact this
    simp only [eev] at he
    split at he
    · rename_i r oo hptr
      split at he
      · rename_i agg row S1 hrs
        split at he
        · rename_i R hR
          split at he
          · rename_i hr
            simp only [Option.some.injEq, Prod.mk.injEq] at he
            obtain ⟨rfl, rfl⟩ := he
            obtain ⟨c1, c2⟩ := hc
            cases x1 with
            | k q => simp [Opd.ev] at hptr
            | z q => simp [Opd.ev] at hptr
            | t s =>
              have hs := h.vars s
              simp only [Opd.ev] at hptr
              rw [hptr] at hs
              obtain ⟨b, k, hv, hgk⟩ := hs
              obtain ⟨g1, k1, k2, k3⟩ := rsv_sound h hrs 0
              obtain ⟨q1, q2⟩ := k2.at
              obtain ⟨g2, z1, arr, e, z2, z3⟩ := storeMem_rel (vs := (x2.val a.tmps).cells.toList) k1 hr hR (k3.root _ _ _ _ hgk) c1 hn0 c2 (by simp; omega) (fun j c hj => by
                have := q2 j c hj
                rw [Nat.zero_add] at this
                rwa [show (x2.val a.tmps).cells.getD j undef = (x2.val a.tmps).cells.toList.getD j undef by rw [Array.getD_eq_getD_getElem?, List.getD_eq_getElem?_getD, Array.getElem?_toList]] at this)
              exact ⟨_, g2, .inr ⟨hrun b k arr e hv z2 (by omega) z3 (hones k2), by rw [hput]; exact z1⟩⟩
          · cases he
        · cases he
      · cases he
    · rename_i r oo p i o1 ks row0 hptr
      split at he
      · rename_i agg row S1 hrs
        split at he
        · rename_i ts t0 hts ht0
          split at he
          · rename_i md sz rows hnd
            split at he
            · rename_i hr
              obtain ⟨hr, hmd⟩ := hr
              simp only [Option.some.injEq, Prod.mk.injEq] at he
              obtain ⟨rfl, rfl⟩ := he
              obtain ⟨c1, c2, c3, c4, c5⟩ := hc
              cases x1 with
              | k q => simp [Opd.ev] at hptr
              | z q => simp [Opd.ev] at hptr
              | t s =>
                have hs := h.vars s
                simp only [Opd.ev] at hptr
                rw [hptr] at hs
                obtain ⟨b, k, hv, hcc⟩ := hs
                obtain ⟨g1, k1, k2, k3⟩ := rsv_sound h hrs 0
                obtain ⟨q1, q2⟩ := k2.at
                have hvd := keyB_vd c4
                obtain ⟨arr', e', fr, m1, m2, m3, m4, m5⟩ := hcc (hvd.mono k3.k)
                obtain ⟨n1, n2, n3⟩ := m5 _ _ _ _ _ rfl
                have hrow := rowT_get hts
                have hrl : row.length = n := by rw [hrow, List.length_map]; exact c1
                obtain ⟨g2, z1, arr, e, z2, z3⟩ := storeEl_rel (vs := (x2.val a.tmps).cells.toList) k1 hmd hr ht0 hnd (fun j hj => k3.lab _ _ _ (n3 j (by omega)) ((hvd _ n1).1) hr) c1 hn0 c2 c3 (by simp; omega) (fun j t hj => by
                  have := q2 j (.ow t) (by rw [hrow, List.getElem?_map, hj]; rfl)
                  rw [Nat.zero_add] at this
                  rwa [show (x2.val a.tmps).cells.getD j undef = (x2.val a.tmps).cells.toList.getD j undef by rw [Array.getD_eq_getD_getElem?, List.getD_eq_getElem?_getD, Array.getElem?_toList]] at this)
                exact ⟨_, g2, .inr ⟨hrun b k arr e hv z2 (by omega) z3 (hones k2), by rw [hput]; exact z1⟩⟩
            · cases he
          · cases he
        · cases he
      · cases he
    · cases he
  · cases h2
end Go.Eng
