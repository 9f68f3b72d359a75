/-
  Plain facts on lists of tasks: which may start, what Start and End make of them. No condition beyond what each states.
-/
import Derived.Test.YtabkplmpkdbchaaLaw
namespace Go.Proofs.Ytabkplmpkdbchaa
open Go.RowKit

theorem ready_mem {l : List T} {aca : Int} {j : Nat} (hj : j < (readyL l aca).length) : ∃ i, i < l.length ∧ mayB l aca i = true ∧ gi (readyL l aca) j = gi l i := by
  have h : gi (readyL l aca) j ∈ readyL l aca := by rw [gi_eq _ _ hj]; exact List.getElem_mem _
  generalize gi (readyL l aca) j = x at *
  unfold readyL readyTo at h
  simp only [List.mem_map, List.mem_filter, List.mem_range] at h
  obtain ⟨i, ⟨h1, h2⟩, e⟩ := h
  exact ⟨i, h1, h2, e.symm⟩
theorem ready_ne {l : List T} (h0 : 0 < l.length) (hs : ∀ i, i < l.length → (gi l i).st = false) : 0 < (readyL l (-1)).length := by
  obtain ⟨i, hi, hm⟩ : ∃ i, i < l.length ∧ mayB l (-1) i = true := by
    by_cases h : ∃ i, i < l.length ∧ (gi l i).at_ = 2
    · obtain ⟨i, hi, h2⟩ := h
      exact ⟨i, hi, mayB_yes (by decide) (hs i hi) fun j _ => by simp [okAt, h2]⟩
    · refine ⟨0, h0, mayB_yes (by decide) (hs 0 h0) fun j hj => ?_⟩
      have h2 : ¬ (gi l j).at_ = 2 := fun e => h ⟨j, hj, e⟩
      simp [okAt, h2, bne]
  have : gi l i ∈ readyL l (-1) := by
    unfold readyL readyTo
    exact List.mem_map.2 ⟨i, List.mem_filter.2 ⟨List.mem_range.2 hi, hm⟩, rfl⟩
  exact List.length_pos_of_mem this

/-- Tasks of the nexus 0, none of which has started, with tags of their own. -/
def Fresh (l : List T) : Prop := (∀ t ∈ l, t.nx = 0 ∧ t.st = false) ∧ (l.map T.tag).Nodup
theorem Fresh.at_ {l : List T} (h : Fresh l) (i : Nat) (hi : i < l.length) : (gi l i).nx = 0 ∧ (gi l i).st = false := by
  rw [gi_eq l i hi]
  exact h.1 _ (List.getElem_mem _)
theorem Fresh.cut {l : List T} (h : Fresh l) (i : Nat) (hi : i < l.length) : ∃ a b t, l = a ++ t :: b ∧ a.length = i ∧ gi l i = t ∧ t.nx = 0 ∧ t.st = false ∧ (∀ u ∈ a, ¬ u.tag = t.tag) ∧ (∀ u ∈ b, ¬ u.tag = t.tag) ∧ Fresh (a ++ b) := by
  have e : l = l.take i ++ l[i] :: l.drop (i + 1) := by rw [← List.drop_eq_getElem_cons hi, List.take_append_drop]
  refine ⟨l.take i, l.drop (i + 1), l[i], e, by simp; omega, gi_eq l i hi, (h.1 _ (List.getElem_mem _)).1, (h.1 _ (List.getElem_mem _)).2, ?_⟩
  have h2 := h.2
  have h1 := h.1
  generalize l.take i = a at *
  generalize l.drop (i + 1) = b at *
  generalize l[i] = t at *
  subst e
  simp only [List.map_append, List.map_cons, List.nodup_append, List.nodup_cons, List.mem_map, List.mem_cons] at h2
  obtain ⟨ha, ⟨hb1, hb2⟩, hc⟩ := h2
  refine ⟨fun u hu e => hc _ ⟨u, hu, rfl⟩ _ (.inl rfl) e, fun u hu e => hb1 ⟨u, hu, e⟩, fun u hu => h1 u ?_, ?_⟩
  · simp at hu ⊢; rcases hu with hu | hu
    · exact .inl hu
    · exact .inr (.inr hu)
  · simp only [List.map_append, List.nodup_append]
    exact ⟨ha, hb2, fun x hx y hy => hc x (by simpa using hx) y (.inr (by simpa using hy))⟩
theorem gi_mid (a b : List T) (t : T) : gi (a ++ t :: b) a.length = t := by rw [gi_append_right _ _ _ (Nat.le_refl _)]; simp [gi]
theorem fnd_mid (a b : List T) (t : T) (nx tag : Int) (h : ∀ u ∈ a, ¬ u.tag = tag) (h1 : t.nx = nx) (h2 : t.tag = tag) : fnd (a ++ t :: b) nx tag = a.length :=
  fnd_at (by simp) (by rw [gi_mid]; simp [hit, h1, h2]) fun j hj => by
    rw [gi_append_left _ _ _ hj]
    have := h (gi a j) (by rw [gi_eq a j hj]; exact List.getElem_mem _)
    simp [hit, this]
theorem set_mid (a b : List T) (t x : T) : (a ++ t :: b).set a.length x = a ++ x :: b := by simp
theorem filter_mid (a b : List T) (t : T) (nx tag : Int) (ha : ∀ u ∈ a, ¬ u.tag = tag) (hb : ∀ u ∈ b, ¬ u.tag = tag) (h1 : t.nx = nx) (h2 : t.tag = tag) : (a ++ t :: b).filter (fun t => !hit nx tag t) = a ++ b := by
  have q : ∀ l : List T, (∀ u ∈ l, ¬ u.tag = tag) → l.filter (fun t => !hit nx tag t) = l := fun l hl => by
    rw [List.filter_eq_self]
    intro u hu
    simp [hit, hl u hu]
  rw [List.filter_append, List.filter_cons, q a ha, q b hb]
  simp [hit, h1, h2]

/-- One that may start is started, is not started twice, and is ended: then it is gone. -/
theorem ends_step {l : List T} (h : Fresh l) (i : Nat) (hi : i < l.length) (hm : mayB l (-1) i = true) : ∃ l1 l2, sta l (-1) 0 (gi l i).tag = (0, l1) ∧ sta l1 (-1) 0 (gi l i).tag = (12, l1) ∧ fin l1 0 (gi l i).tag = (0, l2) ∧ Fresh l2 ∧ l2.length + 1 = l.length ∧ l1.length = l.length := by
  obtain ⟨a, b, t, rfl, rfl, hg, hnx, hst, ha, hb, hf⟩ := h.cut i hi
  rw [hg]
  have f1 : fnd (a ++ t :: b) 0 t.tag = (a.length : Nat) := fnd_mid a b t 0 _ ha hnx rfl
  have f2 : fnd (a ++ { t with st := true } :: b) 0 t.tag = (a.length : Nat) := fnd_mid a b _ 0 _ ha hnx rfl
  refine ⟨a ++ { t with st := true } :: b, a ++ b, ?_, ?_, ?_, hf, by simp; omega, by simp⟩
  · rw [sta, f1, if_neg (by omega), Int.toNat_natCast, if_pos hm, set_mid, gi_mid]
  · have : mayB (a ++ { t with st := true } :: b) (-1) a.length = false := by rw [mayB, gi_mid]; rfl
    rw [sta, f2, if_neg (by omega), Int.toNat_natCast, if_neg (by rw [this]; decide)]
  · rw [fin, f2, if_neg (by omega), Int.toNat_natCast, gi_mid, if_pos rfl, filter_mid a b { t with st := true } 0 t.tag ha hb hnx rfl]
/-- What TaskEnds enters. -/
def entL (attrs : List Int) (k : Nat) : List T := (List.range k).map fun (i : Nat) => ⟨0, i, gi attrs i % 3, false⟩
theorem entL_length (attrs : List Int) (k : Nat) : (entL attrs k).length = k := by simp [entL]
theorem entL_gi (attrs : List Int) (k i : Nat) (h : i < k) : gi (entL attrs k) i = ⟨0, i, gi attrs i % 3, false⟩ := by
  rw [gi_eq _ _ (by rw [entL_length]; exact h)]
  simp [entL]
theorem entL_fresh (attrs : List Int) (k : Nat) : Fresh (entL attrs k) := by
  refine ⟨fun t ht => ?_, ?_⟩
  · simp only [entL, List.mem_map] at ht
    obtain ⟨i, _, rfl⟩ := ht
    exact ⟨rfl, rfl⟩
  · simp only [entL, List.map_map, List.Nodup, List.pairwise_map]
    refine List.Pairwise.imp ?_ List.nodup_range
    intro x y hxy e
    apply hxy
    have e' : (x : Int) = y := e
    omega
theorem entL_ent (attrs : List Int) (k : Nat) : ent (entL attrs (min k 16)) (-1) ⟨0, k, gi attrs k % 3, false⟩ = (if k < 16 then 0 else 40, 0, entL attrs (min (k + 1) 16)) := by
  have h1 : ¬ ((0 : Int) < 0 ∨ 8 ≤ (0 : Int) ∨ 3 < gi attrs k % 3) := by omega
  have h2 : ¬ barred (-1) (⟨0, k, gi attrs k % 3, false⟩ : T) := by
    rintro (⟨h, _⟩ | ⟨_, h⟩)
    · omega
    · have : gi attrs k % 3 = 3 := h
      omega
  have h3 : fnd (entL attrs (min k 16)) 0 k = -1 := fnd_no fun j hj => by
    rw [entL_length] at hj
    rw [entL_gi _ _ _ hj]
    have : ¬ (j : Int) = k := by omega
    simp [hit, this]
  rw [ent, if_neg h1, h3, if_neg (by decide), if_neg h2, entL_length]
  by_cases hk : k < 16
  · rw [if_neg (by omega), if_pos hk]
    have e1 : min k 16 = k := by omega
    have e2 : min (k + 1) 16 = k + 1 := by omega
    rw [e1, e2]
    simp [entL, List.range_succ]
  · rw [if_pos (by omega), if_neg hk]
    have e1 : min k 16 = 16 := by omega
    have e2 : min (k + 1) 16 = 16 := by omega
    rw [e1, e2]
end Go.Proofs.Ytabkplmpkdbchaa
