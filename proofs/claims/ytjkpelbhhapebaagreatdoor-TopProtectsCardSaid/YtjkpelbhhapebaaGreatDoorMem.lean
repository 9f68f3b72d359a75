/-
  Words for memory that a call makes itself: what has turned between two worlds, rows of elements of any width, append in any region. Plain lemmas; no condition.
-/
import Derived.Test.YtjkpelbhhapebaaGreatDoorRows
import Derived.WalkKit
import Derived.WalkSpells
import Derived.WalkLawsBesides
import Derived.Deep.QuietTactic
import Derived.BigQuiet
import Derived.Deep.RegionHeld3
import Derived.Deep.RegionLaw
import Derived.Deep.DeepCutAuto
import Derived.Deep.AppendLies
import Derived.Maps.AppendAt
namespace Go.Proofs.YtjkpelbhhapebaaGreatDoor
open Go.RowKit

theorem hide {p : Prop} (h : p) : Hid p := h
theorem ret_int {k : IntKind} {a b : Int} (h : a = b) : Ending.returned (.int k a) = .returned (.int k b) := by rw [h]
theorem ret_bool {a b : Bool} (h : a = b) : Ending.returned (.bool a) = .returned (.bool b) := by rw [h]
theorem int_eq {k : IntKind} {a b : Int} (h : a = b) : Value.int k a = .int k b := by rw [h]
theorem bool_eq {a b : Bool} (h : a = b) : Value.bool a = .bool b := by rw [h]

/-- Between w and w' only blocks of F, and new ones, have turned. -/
structure Mod (F : Nat → Prop) (w w' : World) : Prop where
  os : w'.os = w.os
  tape : w'.tape = w.tape
  output : w'.output = w.output
  size : w.heap.size ≤ w'.heap.size
  block : ∀ k, k < w.heap.size → ¬ F k → w'.heap[k]? = w.heap[k]?

theorem below_drewN {B : Nat} {a w : World} (h : Below B a w) (n : Nat) : Below B a (w.drewN n) := ⟨h.os, h.tape, h.output, h.size, h.block⟩

/-- F and what is new. -/
def Plus (F : Nat → Prop) (w w' : World) : Nat → Prop := fun k => F k ∨ (w.heap.size ≤ k ∧ k < w'.heap.size)

namespace Mod
variable {F G : Nat → Prop} {a b c w w' : World}
theorem refl (F : Nat → Prop) (w : World) : Mod F w w := ⟨rfl, rfl, rfl, Nat.le_refl _, fun _ _ _ => rfl⟩
theorem trans (h : Mod F a b) (k : Mod G b c) (hG : ∀ i, i < a.heap.size → G i → F i) : Mod F a c :=
  ⟨k.os.trans h.os, k.tape.trans h.tape, k.output.trans h.output, Nat.le_trans h.size k.size,
   fun i hi hn => (k.block i (Nat.lt_of_lt_of_le hi h.size) fun hg => hn (hG i hi hg)).trans (h.block i hi hn)⟩
theorem mono (h : Mod F a b) (hG : ∀ i, i < a.heap.size → F i → G i) : Mod G a b :=
  ⟨h.os, h.tape, h.output, h.size, fun i hi hn => h.block i hi fun hf => hn (hG i hi hf)⟩
theorem drew (h : Mod F a w) : Mod F a w.drew := ⟨h.os, h.tape, h.output, h.size, h.block⟩
theorem drewN (h : Mod F a w) (n : Nat) : Mod F a (w.drewN n) := ⟨h.os, h.tape, h.output, h.size, h.block⟩
theorem alloc (h : Mod F a w) (o : Obj) : Mod F a (w.alloc o) :=
  ⟨h.os, h.tape, h.output, Nat.le_trans h.size (by simp), fun i hi hn => (Below.heap_alloc w o i (Nat.lt_of_lt_of_le hi h.size)).trans (h.block i hi hn)⟩
theorem setCell (h : Mod F a w) {p : Addr} (hp : F p.block ∨ a.heap.size ≤ p.block) (u : Value) : Mod F a (w.setCell p u) :=
  ⟨h.os, h.tape, h.output, by simpa [World.setCell] using h.size, fun i hi hn => (Below.heap_setCell w p u i (by
    rintro rfl
    rcases hp with hp | hp
    · exact hn hp
    · omega)).trans (h.block i hi hn)⟩
theorem grown {row : Option Nat} (h : Mod F a w) (hg : w.grownBy w' row) (hr : ∀ k, row = some k → F k ∨ a.heap.size ≤ k) : Mod F a w' :=
  ⟨hg.os.trans h.os, hg.tape.trans h.tape, hg.output.trans h.output, Nat.le_trans h.size hg.size, fun i hi hn =>
    (hg.block i (Nat.lt_of_lt_of_le hi h.size) (fun e => by
      rcases hr i e.symm with h1 | h1
      · exact hn h1
      · omega)).trans (h.block i hi hn)⟩
theorem below (h : Mod F a w) {B : Nat} (hB : B ≤ a.heap.size) (hF : ∀ k, F k → B ≤ k) : Below B a w :=
  ⟨h.os, h.tape, h.output, h.size, fun k hk => h.block k (by omega) fun hf => by have := hF k hf; omega⟩
theorem ofBelow (h : Below a.heap.size a w) : Mod F a w := ⟨h.os, h.tape, h.output, h.size, fun k hk _ => h.block k hk⟩
theorem cell (h : Mod F a w) {p : Addr} {v : Value} (hc : a.cell? p = some v) (hn : ¬ F p.block) : w.cell? p = some v :=
  (World.cell?_of_block (h.block p.block (World.block_lt_of_cell? a p hc) hn)).trans hc
theorem frozen (h : Mod F a w) {p : Addr} (hlt : p.block < a.heap.size) (hn : ¬ F p.block) : w.frozen? p = a.frozen? p := World.frozen?_of_block (h.block p.block hlt hn)
theorem heap (h : Mod F a w) {k : Nat} {o : Obj} (hc : a.heap[k]? = some o) (hn : ¬ F k) : w.heap[k]? = some o :=
  (h.block k (Array.getElem?_eq_some_iff.1 hc).1 hn).trans hc
theorem plus (h : Mod F a b) (k : Mod (Plus F a b) b c) : Mod F a c := h.trans k fun i hi hg => by
  rcases hg with hg | ⟨hg, _⟩
  · exact hg
  · omega
end Mod
theorem Plus.plus {F : Nat → Prop} {a b c : World} (hb : a.heap.size ≤ b.heap.size) (hc : b.heap.size ≤ c.heap.size) : ∀ k, Plus (Plus F a b) b c k → Plus F a c k := by
  intro k hk
  rcases hk with (hk | ⟨h1, h2⟩) | ⟨h1, h2⟩
  · exact .inl hk
  · exact .inr ⟨h1, by omega⟩
  · exact .inr ⟨by omega, h2⟩

/-! ### Rows: a slice of the program's own, elements of sz cells each -/
section
variable {α : Type}
theorem flat_length (enc : α → List Value) (sz : Nat) (he : ∀ a, (enc a).length = sz) (l : List α) : (l.flatMap enc).length = l.length * sz := by
  induction l with
  | nil => simp
  | cons a l ih => simp [List.flatMap_cons, he, ih, Nat.add_mul, Nat.add_comm]
/-- The slice value v holds the elements l, in a block of its own from its head on (or is nil). -/
def Row (w : World) (e : TypeId) (sz : Nat) (enc : α → List Value) (v : Value) (l : List α) : Prop := w.ownsRow 0 e sz v l.length (l.flatMap enc)

variable {w w' : World} {e : TypeId} {sz : Nat} {enc : α → List Value} {v : Value} {l : List α} {F : Nat → Prop}
theorem Row.nil (w : World) (e : TypeId) (sz : Nat) (enc : α → List Value) : Row w e sz enc (.slice none 0 0) ([] : List α) := World.ownsRow_nil w 0 e sz
theorem Row.lt (h : Row w e sz enc v l) : ∀ k, v.ownBlock = some k → k < w.heap.size := fun k hk => (World.ownsRow.lt h k hk).2
theorem Row.mod (h : Row w e sz enc v l) (hm : Mod F w w') (hn : ∀ k, v.ownBlock = some k → ¬ F k) : Row w' e sz enc v l := by
  refine ⟨h.1, ?_⟩
  rcases h.2 with hnil | ⟨g, cap, cur, rfl, hb, hgg, rest⟩
  · exact .inl hnil
  · exact .inr ⟨g, cap, cur, rfl, hb, hm.heap hgg (hn g rfl), rest⟩
theorem Row.drewN (h : Row w e sz enc v l) (n : Nat) : Row (w.drewN n) e sz enc v l := h
theorem Row.alloc (h : Row w e sz enc v l) (o : Obj) : Row (w.alloc o) e sz enc v l := World.ownsRow.alloc h o
theorem Row.slice (h : Row w e sz enc v l) : ∃ A c, v = .slice A l.length c ∧ l.length ≤ c ∧ c ≤ maxLen := by
  rcases h.2 with ⟨rfl, h0⟩ | ⟨g, cap, cur, rfl, _, _, h1, h2, _⟩
  · exact ⟨none, 0, by rw [h0], by omega, by simp [maxLen]⟩
  · exact ⟨_, cap, rfl, h1, h2⟩
/-- The shape alone: so that the walk doesn't spell the length anew. -/
theorem Row.form (h : Row w e sz enc v l) : ∃ A n c, v = .slice A n c := by
  obtain ⟨A, c, h1, _, _⟩ := h.slice
  exact ⟨A, _, c, h1⟩
/-- A row's type parts it from blocks of other types. -/
theorem Row.ne (h : Row w e sz enc v l) {g : Nat} {cs : Array Value} {t : TypeId} {fr : Nat × Nat} (hg : w.heap[g]? = some (.cells cs t fr)) (hne : e ≠ t) : v.ownBlock ≠ some g := by
  rcases h.2 with ⟨rfl, _⟩ | ⟨g', cap, cur, rfl, _, hh, _⟩
  · simp [Value.ownBlock]
  · intro hk
    have : g' = g := by simpa [Value.ownBlock] using hk
    subst this
    rw [hg] at hh
    injection hh with hh
    injection hh with _ ht
    exact hne ht.symm

variable [Inhabited α]
/-- Element number i. -/
def gi (l : List α) (i : Nat) : α := l.getD i default
theorem gi_eq (l : List α) (i : Nat) (h : i < l.length) : gi l i = l[i] := by simp [gi, List.getD_eq_getElem?_getD, List.getElem?_eq_getElem h]
theorem gi_append_left (l m : List α) (i : Nat) (h : i < l.length) : gi (l ++ m) i = gi l i := by simp [gi, List.getD_eq_getElem?_getD, List.getElem?_append_left h]
theorem gi_append_right (l m : List α) (i : Nat) (h : l.length ≤ i) : gi (l ++ m) i = gi m (i - l.length) := by simp [gi, List.getD_eq_getElem?_getD, List.getElem?_append_right h]

theorem flat_get (enc : α → List Value) (sz : Nat) (he : ∀ a, (enc a).length = sz) (l : List α) : ∀ (i j : Nat), i < l.length → j < sz → (l.flatMap enc)[i * sz + j]? = (enc (gi l i))[j]? := by
  induction l with
  | nil => intro i j hi; simp at hi
  | cons a l ih =>
    intro i j hi hj
    cases i with
    | zero =>
      rw [List.flatMap_cons, Nat.zero_mul, Nat.zero_add, List.getElem?_append_left (by rw [he]; exact hj)]
      simp [gi]
    | succ i =>
      have hlt : (enc a).length ≤ (i + 1) * sz + j := by rw [he, Nat.add_mul]; omega
      rw [List.flatMap_cons, List.getElem?_append_right hlt, he, Nat.add_mul]
      have e : i * sz + 1 * sz + j - sz = i * sz + j := by omega
      rw [e, ih i j (by simpa using hi) hj]
      simp [gi]

/-- What is read: n elements from A on. -/
def Rd (w : World) (sz : Nat) (enc : α → List Value) (A : Option Addr) (n : Nat) (l : List α) : Prop :=
  l.length = n ∧ ∀ i, i < n → ∃ ad, A = some ad ∧ ∀ j u, (enc (gi l i))[j]? = some u → w.cell? (ad.add (i * sz + j)) = some u


theorem Row.rd (he : ∀ a, (enc a).length = sz) (h : Row w e sz enc v l) {A : Option Addr} {n c : Nat} (hv : v = .slice A n c) : Rd w sz enc A n l := by
  subst hv
  have hn : l.length = n := by
    rcases h.2 with ⟨h1, h0⟩ | ⟨g, cap, cur, h1, _⟩
    · injection h1 with _ h2 _; omega
    · injection h1 with _ h2 _; omega
  refine ⟨hn, fun i hi => ?_⟩
  rcases h.2 with ⟨h1, h0⟩ | ⟨g, cap, cur, h1, _, hg, hc, hm, hcs, ht⟩
  · omega
  · injection h1 with h1 _ h3
    subst h1
    refine ⟨_, rfl, fun j u hu => ?_⟩
    have hj : j < sz := by
      have := (List.getElem?_eq_some_iff.1 hu).1
      rwa [he] at this
    refine World.ownsRow.cells (w := w) h (g := g) rfl _ _ ?_
    rw [flat_get enc sz he l i j (by omega) hj, hu]
theorem Rd.none_ (w : World) (sz : Nat) (enc : α → List Value) (A : Option Addr) : Rd w sz enc A 0 ([] : List α) := ⟨rfl, fun i hi => by omega⟩
theorem Rd.keep {A : Option Addr} {n : Nat} (h : Rd w sz enc A n l) (hk : ∀ p v, w.cell? p = some v → A.map (·.block) = some p.block → w'.cell? p = some v) : Rd w' sz enc A n l :=
  ⟨h.1, fun i hi => by
    obtain ⟨ad, rfl, hc⟩ := h.2 i hi
    refine ⟨ad, rfl, fun j u hu => hk _ _ (hc j u hu) ?_⟩
    simp [Addr.add]; split <;> rfl⟩
theorem Rd.mod {A : Option Addr} {n : Nat} (h : Rd w sz enc A n l) (hm : Mod F w w') (hn : ∀ ad, A = some ad → ¬ F ad.block) : Rd w' sz enc A n l :=
  h.keep fun p v hc hb => hm.cell hc (by
    cases A with
    | none => simp at hb
    | some ad => simp at hb; rw [← hb]; exact hn _ rfl)
theorem Rd.below {A : Option Addr} {n : Nat} (h : Rd w sz enc A n l) (hm : Below w.heap.size w w') : Rd w' sz enc A n l :=
  h.keep fun p _ hc _ => (hm.cell (World.block_lt_of_cell? w p hc)).trans hc
theorem Rd.drewN {A : Option Addr} {n : Nat} (h : Rd w sz enc A n l) (m : Nat) : Rd (w.drewN m) sz enc A n l := h
theorem Rd.drew {A : Option Addr} {n : Nat} (h : Rd w sz enc A n l) : Rd w.drew sz enc A n l := h
theorem Rd.alloc {A : Option Addr} {n : Nat} (h : Rd w sz enc A n l) (o : Obj) : Rd (w.alloc o) sz enc A n l :=
  h.keep fun p _ hc _ => by rw [World.cell?_alloc_lt w o p (World.block_lt_of_cell? w p hc)]; exact hc
theorem Rd.take {A : Option Addr} {n : Nat} (h : Rd w sz enc A n l) (k : Nat) (hk : k ≤ n) : Rd w sz enc A k (l.take k) :=
  ⟨by simp [h.1, hk], fun i hi => by
    obtain ⟨ad, ha, hc⟩ := h.2 i (by omega)
    refine ⟨ad, ha, fun j u hu => hc j u ?_⟩
    rw [← hu]
    simp [gi, List.getD_eq_getElem?_getD, hi]⟩
theorem addr_add (a : Addr) (i j : Nat) : (a.add i).add j = a.add (i + j) := by
  unfold Addr.add
  by_cases hi : i = 0 <;> by_cases hj : j = 0 <;> simp [hi, hj, Nat.add_assoc]
theorem Rd.drop {A : Option Addr} {n : Nat} (h : Rd w sz enc A n l) (k : Nat) (hk : k ≤ n) : Rd w sz enc (A.map (·.add (k * sz))) (n - k) (l.drop k) :=
  ⟨by simp [h.1], fun i hi => by
    obtain ⟨ad, rfl, hc⟩ := h.2 (k + i) (by omega)
    refine ⟨_, rfl, fun j u hu => ?_⟩
    rw [addr_add]
    have e : k * sz + (i * sz + j) = (k + i) * sz + j := by rw [Nat.add_mul]; omega
    rw [e]
    refine hc j u ?_
    rw [← hu]
    simp [gi, List.getD_eq_getElem?_getD]⟩
/-- What 's[k:]' reads, as the model spells its address. -/
theorem Rd.cut {ad : Addr} {n cap : Nat} (h : Rd w 1 enc (some ad) n l) (k : Nat) (hk : k ≤ n) (hc : n ≤ cap) : Rd w 1 enc (if cap = k then some ad else some (ad.add k)) (n - k) (l.drop k) := by
  split
  · have h0 : n - k = 0 := by omega
    have hl : l.drop k = [] := List.drop_eq_nil_of_le (by have := h.1; omega)
    rw [h0, hl]
    exact Rd.none_ _ _ _ _
  · have := h.drop k hk
    simpa using this
/-- One element in a block of its own. -/
theorem Rd.box (w : World) (enc : α → List Value) (a : α) (e : TypeId) : Rd (w.alloc (.cells (enc a).toArray e)) sz enc (some ⟨w.heap.size, 0, none⟩) 1 [a] :=
  ⟨rfl, fun i hi => by
    obtain rfl : i = 0 := by omega
    refine ⟨_, rfl, fun j u hu => ?_⟩
    have e : (⟨w.heap.size, 0, none⟩ : Addr).add (0 * sz + j) = ⟨w.heap.size, j, none⟩ := by simp [Addr.add]; rintro rfl; rfl
    rw [e, World.cell?_alloc_new]
    simpa [gi] using hu⟩

theorem grown_mod {row : Option Nat} (hg : w.grownBy w' row) : Mod (fun k => row = some k) w w' :=
  (Mod.refl _ w).grown hg fun _ hk => .inl hk
theorem grown_of_mod {row : Option Nat} (hg : Mod (fun k => row = some k) w w') : w.grownBy w' row :=
  ⟨hg.os, hg.tape, hg.output, hg.size, fun k hk hn => hg.block k hk fun h => hn h.symm⟩
end

/-! ### append -/
section
variable {α : Type} [Inhabited α] {P : Program}
/-- What is known of an element type: one closed fact. -/
def Elem (P : Program) (e : TypeId) (z : Value) (sz bytes : Nat) : Prop := (P.info? e).map (fun i => (i.zero, i.size, i.bytes)) = some (some z, sz, bytes) ∧ z.cells.size = sz ∧ 0 < sz

theorem run_app (w : World) (t ty e : TypeId) (z : Value) (sz bytes : Nat) (enc : α → List Value) (he : ∀ a, (enc a).length = sz) (h1 : ∀ a, ∀ u ∈ enc a, u.oneCell' = true)
    (ht : P.underlying t = some (.slice e)) (hE : Elem P e z sz bytes) (v : Value) (l : List α) (hv : Row w e sz enc v l) (A : Option Addr) (m c : Nat) (src : List α) (hs : Rd w sz enc A m src)
    (hm : l.length + m ≤ maxLen) (hb : (l.length + m) * bytes ≤ 140737488355328) :
    ∃ v' w', (Builtin.append_ #[t, t] ty #[v, .slice A m c]).run P w = .ok v' w' ∧ Row w' e sz enc v' (l ++ src) ∧ w.grownBy w' v.ownBlock ∧ (v'.ownBlock = v.ownBlock ∨ v'.ownBlock = some w.heap.size) := by
  obtain ⟨hinfo, hz, hsz⟩ := hE
  obtain ⟨i0, hi, hzz⟩ := Option.map_eq_some_iff.1 hinfo
  simp only [Prod.mk.injEq] at hzz
  obtain ⟨hz0, hz1, hz2⟩ := hzz
  have hlen : src.length = m := hs.1
  rcases A with _ | ad
  · have h0 : m = 0 := by
      rcases Nat.eq_zero_or_pos m with h0 | h0
      · exact h0
      · obtain ⟨ad, h, _⟩ := hs.2 0 h0
        cases h
    subst h0
    obtain rfl : src = [] := List.eq_nil_of_length_eq_zero hlen
    refine ⟨v, w, ?_, by simpa using hv, World.grownBy.refl w _, .inl rfl⟩
    rcases hv.2 with ⟨rfl, hn⟩ | ⟨g, cap, cur, rfl, _, _, hnc, _⟩
    · simp [Builtin.append_, run_underlying ht, sizeOf, typeInfo, hi, Builtin.lenOf, Builtin.firstCells]
    · simp [Builtin.append_, run_underlying ht, sizeOf, typeInfo, hi, Builtin.lenOf, Builtin.firstCells, hnc, storeCells]
  · have hcells : ∀ j u, (src.flatMap enc)[j]? = some u → w.cell? (ad.add j) = some u := by
      intro j u hu
      have hj : j < src.length * sz := by
        have := (List.getElem?_eq_some_iff.1 hu).1
        rwa [flat_length enc sz he] at this
      have hdm : j = j / sz * sz + j % sz := by rw [Nat.mul_comm]; exact (Nat.div_add_mod j sz).symm
      have hq : j / sz < src.length := (Nat.div_lt_iff_lt_mul hsz).2 hj
      obtain ⟨ad', h, hc⟩ := hs.2 (j / sz) (by omega)
      injection h with h
      subst h
      rw [hdm]
      refine hc _ _ ?_
      rw [← flat_get enc sz he src (j / sz) (j % sz) hq (Nat.mod_lt _ hsz), ← hdm, hu]
    obtain ⟨v1, w1, hr, h2, h3, _, h5⟩ := run_append_own_at (P := P) w 0 t ty e i0 z sz bytes ht hi hz0 hz1 hz2 hz hsz v l.length (l.flatMap enc) hv ad m c (src.flatMap enc)
      (by rw [flat_length enc sz he, hlen]) hcells (by intro u hu; rw [List.mem_flatMap] at hu; obtain ⟨a, _, ha⟩ := hu; exact h1 a u ha) hm hb (Nat.zero_le _)
    refine ⟨v1, w1, hr, ?_, h3, h5⟩
    unfold Row
    rw [List.length_append, hlen, List.flatMap_append]
    exact h2

variable {w : World} {ops : Array Oper} {rest : List Oper} {o : Oper} {a : Act} {K : Act → World → Prop} {Q : Exit → Act → World → Prop} {E : Prop}

theorem wp_app (s x : Operand) (t e : TypeId) (z : Value) (sz bytes : Nat) (enc : α → List Value)
    (ho : o.op = .call { callee := .builtin .append, args := #[s, x], argTypes := #[t, t] }) (he : ∀ a, (enc a).length = sz) (h1 : ∀ a, ∀ u ∈ enc a, u.oneCell' = true)
    (ht : P.underlying t = some (.slice e)) (hE : Elem P e z sz bytes) (v : Value) (l : List α) (A : Option Addr) (m c : Nat) (src : List α)
    (hsv : a.eval s = v) (hx : a.eval x = .slice A m c) (hv : Row w e sz enc v l) (hs : Rd w sz enc A m src)
    (hm : l.length + m ≤ maxLen) (hb : (l.length + m) * bytes ≤ 140737488355328)
    (h : ∀ v' w', Row w' e sz enc v' (l ++ src) → w.grownBy w' v.ownBlock → (v'.ownBlock = v.ownBlock ∨ v'.ownBlock = some w.heap.size) → K (a.put o.dst v') w') : o.wp P a w K Q := by
  obtain ⟨v', w', hrun, h2, h3, h4⟩ := run_app (P := P) w t o.type e z sz bytes enc he h1 ht hE v l hv A m c src hs hm hb
  unfold Oper.wp execOp
  simp only [ho, resolve, invoke, builtin, Sem.run_bind, Sem.run_pure, Result.andThen_ok, List.map_toArray, List.map_cons, List.map_nil, hsv, hx, hrun]
  exact h v' w' h2 h3 h4

theorem list_app (s x : Operand) (t e : TypeId) (z : Value) (sz bytes : Nat) (enc : α → List Value)
    (ho : o.op = .call { callee := .builtin .append, args := #[s, x], argTypes := #[t, t] }) (hg : o.guard = none) (he : ∀ a, (enc a).length = sz) (h1 : ∀ a, ∀ u ∈ enc a, u.oneCell' = true)
    (ht : P.underlying t = some (.slice e)) (hE : Elem P e z sz bytes) (v : Value) (l : List α) (A : Option Addr) (m c : Nat) (src : List α)
    (hsv : a.eval s = v) (hx : a.eval x = .slice A m c) (hv : Row w e sz enc v l) (hs : Rd w sz enc A m src)
    (hm : l.length + m ≤ maxLen) (hb : (l.length + m) * bytes ≤ 140737488355328)
    (h : ∀ v' w', Row w' e sz enc v' (l ++ src) → w.grownBy w' v.ownBlock → (v'.ownBlock = v.ownBlock ∨ v'.ownBlock = some w.heap.size) → wpList P ops Q rest (a.put o.dst v') w') : wpList P ops Q (o :: rest) a w :=
  wpList_plain hg fun _ hK => wp_app s x t e z sz bytes enc ho he h1 ht hE v l A m c src hsv hx hv hs hm hb fun v' w' h2 h3 h4 => hK _ _ (h v' w' h2 h3 h4)

theorem step_app (s x : Operand) (t e : TypeId) (z : Value) (sz bytes : Nat) (enc : α → List Value)
    (ho : o.op = .call { callee := .builtin .append, args := #[s, x], argTypes := #[t, t] }) (hg : o.guard = none) (he : ∀ a, (enc a).length = sz) (h1 : ∀ a, ∀ u ∈ enc a, u.oneCell' = true)
    (ht : P.underlying t = some (.slice e)) (hE : Elem P e z sz bytes) (v : Value) (l : List α) (A : Option Addr) (m c : Nat) (src : List α)
    (hsv : a.eval s = v) (hx : a.eval x = .slice A m c) (hv : Row w e sz enc v l) (hs : Rd w sz enc A m src)
    (hm : l.length + m ≤ maxLen) (hb : (l.length + m) * bytes ≤ 140737488355328)
    (h : ∀ v' w', Row w' e sz enc v' (l ++ src) → w.grownBy w' v.ownBlock → (v'.ownBlock = v.ownBlock ∨ v'.ownBlock = some w.heap.size) → K (a.put o.dst v') w') :
    if Region.wanted o (yielded ops a.tmps) = true then Oper.wp P o a w K Q else E := by
  have hw : Region.wanted o (yielded ops a.tmps) = true := by simp [Region.wanted, hg]
  rw [if_pos hw]
  exact wp_app s x t e z sz bytes enc ho he h1 ht hE v l A m c src hsv hx hv hs hm hb h
end

/-! ### A struct read at an address, whole -/
section
variable {P : Program}
theorem run_loadVar_at (w : World) (ty : TypeId) (a : Addr) (cs : List Value) (d : TypeDesc) (hc : ∀ j u, cs[j]? = some u → w.cell? (a.add j) = some u)
    (hu : P.underlying ty = some d) (hd : (match d with | .struct _ | .array _ _ => true | _ => false) = true) (hi : (P.info? ty).map (·.size) = some cs.length) :
    (loadVar ty a).run P w = .ok (.agg cs.toArray) w := by
  have hl := run_loadCells_list (P := P) w a cs hc
  cases hq : P.info? ty with
  | none => simp [hq] at hi
  | some i =>
    have hs : i.size = cs.length := by simpa [hq] using hi
    have hagg : (isAgg ty).run P w = .ok true w := by
      unfold isAgg
      rw [Sem.run_bind, run_underlying hu w]
      cases d <;> simp_all
    simp [loadVar, Sem.run_bind, hagg, sizeOf, typeInfo, hq, hs, hl]
variable {w : World} {ops : Array Oper} {rest : List Oper} {o : Oper} {a : Act} {K : Act → World → Prop} {Q : Exit → Act → World → Prop}
theorem list_load (ty : TypeId) (x : Operand) (ho : o.op = .load ty x) (hg : o.guard = none) (d : TypeDesc) (hu : P.underlying ty = some d) (hd : (match d with | .struct _ | .array _ _ => true | _ => false) = true)
    (ad : Addr) (cs : List Value) (hi : (P.info? ty).map (·.size) = some cs.length) (hx : a.eval x = .pointer (some ad)) (hc : ∀ j u, cs[j]? = some u → w.cell? (ad.add j) = some u)
    (h : wpList P ops Q rest (a.put o.dst (.agg cs.toArray)) w) : wpList P ops Q (o :: rest) a w :=
  wpList_plain hg fun _ hK => by
    unfold Oper.wp execOp
    simp only [ho, hx, Instr.loadAt, Instr.sureAddr, Sem.run_bind, Sem.run_pure, Result.andThen_ok, run_loadVar_at w ty ad cs d hc hu hd hi]
    exact hK _ _ h
end

section
variable {P : Program} {ops : Array Oper} {C : World → Prop} {Q : Act → Prop} {o : Oper} {rest : List Oper} {a : Act}
/-- A struct read whole, in a region that only reads. -/
theorem quiet_load (ty : TypeId) (x : Operand) (ho : o.op = .load ty x) (hg : o.guard = none) (d : TypeDesc) (hu : P.underlying ty = some d) (hd : (match d with | .struct _ | .array _ _ => true | _ => false) = true)
    (ad : Addr) (cs : List Value) (hi : (P.info? ty).map (·.size) = some cs.length) (hx : a.eval x = .pointer (some ad)) (hc : ∀ w, C w → ∀ j u, cs[j]? = some u → w.cell? (ad.add j) = some u)
    (h : wpQuiet P ops C Q rest (a.put o.dst (.agg cs.toArray))) : wpQuiet P ops C Q (o :: rest) a := by
  have hw : Region.wanted o (yielded ops a.tmps) = true := by simp [Region.wanted, hg]
  unfold wpQuiet
  rw [if_pos hw]
  refine ⟨.agg cs.toArray, fun w hC => ?_, h⟩
  unfold Oper.quietAt execOp
  simp only [ho, hx, Instr.loadAt, Instr.sureAddr, Sem.run_bind, Sem.run_pure, Result.andThen_ok, run_loadVar_at w ty ad cs d (hc w hC) hu hd hi]
  exact ⟨rfl, rfl⟩
end

/-- Whole numbers as cells. -/
def ic (k : IntKind) (n : Int) : List Value := [.int k n]
theorem ic_len (k : IntKind) : ∀ n, (ic k n).length = 1 := fun _ => rfl
theorem ic_one (k : IntKind) : ∀ n, ∀ u ∈ ic k n, u.oneCell' = true := by intro n u hu; simp [ic] at hu; subst hu; rfl
theorem Rd.int {w : World} {k : IntKind} {A : Option Addr} {n : Nat} {l : List Int} (h : Rd w 1 (ic k) A n l) (i : Nat) (hi : i < n) : ∃ ad, A = some ad ∧ w.cell? (ad.add i) = some (.int k (gi l i)) := by
  obtain ⟨ad, ha, hc⟩ := h.2 i hi
  exact ⟨ad, ha, by simpa using hc 0 _ rfl⟩
theorem rd_ints {w : World} {k : IntKind} {A : Option Addr} {n : Nat} {l : List Int} (hl : l.length = n) (h : ∀ i, i < n → ∃ ad, A = some ad ∧ w.cell? (ad.add i) = some (.int k (gi l i))) : Rd w 1 (ic k) A n l :=
  ⟨hl, fun i hi => by
    obtain ⟨ad, ha, hc⟩ := h i hi
    refine ⟨ad, ha, fun j u hu => ?_⟩
    have : j = 0 := by
      have := (List.getElem?_eq_some_iff.1 hu).1
      simp [ic] at this; omega
    subst this
    simp [ic] at hu
    subst hu
    simpa using hc⟩

theorem flat_ic (k : IntKind) (l : List Int) : l.flatMap (ic k) = l.map (Value.int k) := by
  induction l with
  | nil => rfl
  | cons a l ih => simp [List.flatMap_cons, ih, ic]
/-- A row of whole numbers with an element lies in a block of its own. -/
theorem Row.some_ {α : Type} {w : World} {e : TypeId} {sz : Nat} {enc : α → List Value} {v : Value} {l : List α} (h : Row w e sz enc v l) (hl : 0 < l.length) : ∃ g c, v = .slice (some ⟨g, 0, none⟩) l.length c ∧ g < w.heap.size := by
  rcases h.2 with ⟨_, h0⟩ | ⟨g, cap, cur, rfl, _, hh, _⟩
  · omega
  · exact ⟨g, cap, rfl, (Array.getElem?_eq_some_iff.1 hh).1⟩
theorem Row.num {w : World} {e : TypeId} {k : IntKind} {g n c : Nat} {l : List Int} (h : Row w e 1 (ic k) (.slice (some ⟨g, 0, none⟩) n c) l) (i : Nat) (hi : i < l.length) :
    w.cell? ⟨g, i, none⟩ = some (.int k (gi l i)) ∧ w.frozen? ⟨g, i, none⟩ = false := by
  have hn : l.length = n := (h.rd (ic_len k) rfl).1
  subst hn
  refine ⟨?_, World.ownsRow.frozenAt (w := w) h i⟩
  rw [World.ownsRow.cellAt (w := w) h i (by omega), flat_ic, List.getElem?_map, List.getElem?_eq_getElem hi, gi_eq l i hi]
  rfl
theorem Row.store {w : World} {e : TypeId} {k : IntKind} {g n c : Nat} {l : List Int} (h : Row w e 1 (ic k) (.slice (some ⟨g, 0, none⟩) n c) l) (i : Nat) (x : Int) :
    Row (w.setCell ⟨g, i, none⟩ (.int k x)) e 1 (ic k) (.slice (some ⟨g, 0, none⟩) n c) (l.set i x) ∧ Mod (fun j => j = g) w (w.setCell ⟨g, i, none⟩ (.int k x)) := by
  have hn : l.length = n := (h.rd (ic_len k) rfl).1
  subst hn
  have hs := World.ownsRow.stored (w := w) h i (.int k x)
  refine ⟨?_, (Mod.refl (fun j => j = g) w).setCell (p := ⟨g, i, none⟩) (.inl rfl) _⟩
  unfold Row
  have he : (l.set i x).flatMap (ic k) = (l.flatMap (ic k)).set i (.int k x) := by rw [flat_ic, flat_ic, List.map_set]
  rw [he, List.length_set]
  exact hs.1

end Go.Proofs.YtjkpelbhhapebaaGreatDoor
