/-
  Plain facts on lists of tasks in the order of their tags. No condition beyond what each states.
-/
import Derived.Test.YtabkplmpkdbchaaPlain
namespace Go.Proofs.Ytabkplmpkdbchaa
open Go.RowKit

/-- A task read whole at an address. -/
theorem load_task {ops : Array Oper} {rest : List Oper} {o : Oper} {a : Act} {Q : Exit → Act → World → Prop} {w : World} (x : Operand) (t : T) (ad : Addr) (ho : o.op = .load 26 x) (hg : o.guard = none)
    (hx : a.eval x = .pointer (some ad)) (hc : ∀ j u, (enc t)[j]? = some u → w.cell? (ad.add j) = some u)
    (h : wpList Try.prog ops Q rest (a.put o.dst (.agg #[.int .i64 t.nx, .int .u32 t.tag, .int .u8 t.at_, .bool t.st])) w) : wpList Try.prog ops Q (o :: rest) a w :=
  list_load 26 x ho hg _ Try.underlying26 rfl ad (enc t) size26 hx hc h

/-- At most 16 tasks, with rising tags below n, none for an allegiance. -/
def Ord (n : Nat) (l : List T) : Prop := l.length ≤ 16 ∧ (l.map T.tag).Pairwise (· < ·) ∧ ∀ t ∈ l, t.tag < n ∧ ¬ t.at_ = 3
theorem Ord.nil : Ord 0 [] := ⟨by simp, by simp, by simp⟩
theorem Ord.lt {n : Nat} {l : List T} (h : Ord n l) {i j : Nat} (hj : j < l.length) (hij : i < j) : (gi l i).tag < (gi l j).tag := by
  have := h.2.1
  rw [List.pairwise_iff_getElem] at this
  have h1 := this i j (by simp; omega) (by simpa using hj) hij
  rw [gi_eq l i (by omega), gi_eq l j hj]
  simpa using h1
theorem Ord.iff {n : Nat} {l : List T} (h : Ord n l) {i j : Nat} (hi : i < l.length) (hj : j < l.length) : (gi l j).tag < (gi l i).tag ↔ j < i := by
  rcases Nat.lt_trichotomy i j with hij | rfl | hij
  · have := h.lt hj hij; omega
  · omega
  · have := h.lt hi hij; omega
theorem Ord.fnd {n : Nat} {l : List T} (h : Ord n l) {i : Nat} (hi : i < l.length) : fnd l (gi l i).nx (gi l i).tag = (i : Nat) :=
  fnd_at hi (by simp [hit]) fun j hj => by
    have := h.lt hi hj
    have h2 : ¬ (gi l j).tag = (gi l i).tag := by omega
    simp [hit, h2]
theorem Ord.enter {n : Nat} {l : List T} (h : Ord n l) (a : Int) : ∃ st l', ent l (-1) ⟨(n : Int) % 8, n, a % 3, false⟩ = (st, 0, l') ∧ (st = 0 ∨ st = 40) ∧ Ord (n + 1) l' := by
  have h1 : ¬ ((n : Int) % 8 < 0 ∨ 8 ≤ (n : Int) % 8 ∨ 3 < a % 3) := by omega
  have h2 : ¬ barred (-1) (⟨(n : Int) % 8, n, a % 3, false⟩ : T) := by
    rintro (⟨h, _⟩ | ⟨_, h⟩)
    · omega
    · have : a % 3 = 3 := h
      omega
  have h3 : Ytabkplmpkdbchaa.fnd l ((n : Int) % 8) n = -1 := fnd_no fun j hj => by
    have := (h.2.2 (gi l j) (by rw [gi_eq l j hj]; exact List.getElem_mem _)).1
    have h4 : ¬ (gi l j).tag = n := by omega
    simp [hit, h4]
  rw [ent, if_neg h1, h3, if_neg (by decide), if_neg h2]
  by_cases h16 : 16 ≤ l.length
  · rw [if_pos h16]
    exact ⟨40, l, rfl, .inr rfl, h.1, h.2.1, fun t ht => ⟨by have := (h.2.2 t ht).1; omega, (h.2.2 t ht).2⟩⟩
  · rw [if_neg h16]
    refine ⟨0, _, rfl, .inl rfl, by simp; omega, ?_, fun t ht => ?_⟩
    · rw [List.map_append, List.pairwise_append]
      refine ⟨h.2.1, by simp, fun x hx y hy => ?_⟩
      simp only [List.mem_map] at hx
      obtain ⟨t, ht, rfl⟩ := hx
      simp at hy
      subst hy
      exact (h.2.2 t ht).1
    · simp at ht
      rcases ht with ht | rfl
      · exact ⟨by have := (h.2.2 t ht).1; omega, (h.2.2 t ht).2⟩
      · exact ⟨by show (n : Int) < ((n + 1 : Nat) : Int); omega, by show ¬ a % 3 = 3; omega⟩
theorem Ord.start {n : Nat} {l : List T} (h : Ord n l) {i : Nat} (hi : i < l.length) (hm : mayB l (-1) i = true) : ∃ l', sta l (-1) (gi l i).nx (gi l i).tag = (0, l') ∧ Ord n l' := by
  refine ⟨l.set i { gi l i with st := true }, by rw [sta, h.fnd hi, if_neg (by omega), Int.toNat_natCast, if_pos hm], by simpa using h.1, ?_, fun t ht => ?_⟩
  · rw [List.map_set]
    have e : (l.map T.tag).set i (gi l i).tag = l.map T.tag := by
      rw [gi_eq l i hi]
      have : l[i].tag = (l.map T.tag)[i]'(by simpa using hi) := by simp
      rw [this, List.set_getElem_self]
    rw [e]
    exact h.2.1
  · rcases List.mem_or_eq_of_mem_set ht with ht | rfl
    · exact h.2.2 t ht
    · exact h.2.2 (gi l i) (by rw [gi_eq l i hi]; exact List.getElem_mem _)
theorem Ord.end_ {n : Nat} {l : List T} (h : Ord n l) {i : Nat} (hi : i < l.length) (hs : (gi l i).st = true) : ∃ l', fin l (gi l i).nx (gi l i).tag = (0, l') ∧ Ord n l' := by
  refine ⟨_, by rw [fin, h.fnd hi, if_neg (by omega), Int.toNat_natCast, if_pos hs], Nat.le_trans (List.length_filter_le _ _) h.1, ?_, fun t ht => h.2.2 t (List.mem_filter.1 ht).1⟩
  exact h.2.1.sublist (List.filter_sublist.map _)
/-- What a task that may start says of another one that is there. -/
theorem Ord.may {n : Nat} {l : List T} (h : Ord n l) {i j : Nat} (hi : i < l.length) (hj : j < l.length) (hm : mayB l (-1) i = true) :
    (gi l i).at_ = 2 ∨ (¬ (gi l i).at_ = 2 ∧ ¬ (gi l j).at_ = 2 ∧ (¬ (gi l j).tag < (gi l i).tag ∨ ((gi l j).tag < (gi l i).tag ∧ ¬ (gi l i).at_ = 1 ∧ ¬ (gi l j).at_ = 1))) := by
  have hok : okAt l i j = true := by
    cases ho : okAt l i j
    · rw [mayB_no (by decide) hj ho] at hm; cases hm
    · rfl
  rw [h.iff hi hj]
  by_cases h2 : (gi l i).at_ = 2
  · exact .inl h2
  · right
    refine ⟨h2, ?_⟩
    by_cases hji : j = i
    · subst hji
      exact ⟨h2, .inl (by omega)⟩
    · simp [okAt, h2, hji] at hok
      refine ⟨hok.1, ?_⟩
      by_cases hlt : j < i
      · exact .inr ⟨hlt, hok.2.resolve_left (by omega)⟩
      · exact .inl hlt
end Go.Proofs.Ytabkplmpkdbchaa
