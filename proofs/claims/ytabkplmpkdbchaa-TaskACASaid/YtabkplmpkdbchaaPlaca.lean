/-
  Plain facts on what TaskACA enters, and what an allegiance makes of it. No condition beyond what each states.
-/
import Derived.Test.YtabkplmpkdbchaaPlain
namespace Go.Proofs.Ytabkplmpkdbchaa
open Go.RowKit

/-- What TaskACA enters. -/
def acaL (attrs : List Int) (k : Nat) : List T := (List.range k).map fun (i : Nat) => ⟨(i : Int) % 8, i, gi attrs i % 3, false⟩
theorem acaL_length (attrs : List Int) (k : Nat) : (acaL attrs k).length = k := by simp [acaL]
theorem acaL_gi (attrs : List Int) (k i : Nat) (h : i < k) : gi (acaL attrs k) i = ⟨(i : Int) % 8, i, gi attrs i % 3, false⟩ := by
  rw [gi_eq _ _ (by rw [acaL_length]; exact h)]
  simp [acaL]
theorem acaL_ent (attrs : List Int) (k : Nat) (hk : k < 10) : ent (acaL attrs k) (-1) ⟨(k : Int) % 8, k, gi attrs k % 3, false⟩ = (0, 0, acaL attrs (k + 1)) := by
  have h1 : ¬ ((k : Int) % 8 < 0 ∨ 8 ≤ (k : Int) % 8 ∨ 3 < gi attrs k % 3) := by omega
  have h2 : ¬ barred (-1) (⟨(k : Int) % 8, k, gi attrs k % 3, false⟩ : T) := by
    rintro (⟨h, _⟩ | ⟨_, h⟩)
    · omega
    · have : gi attrs k % 3 = 3 := h
      omega
  have h3 : fnd (acaL attrs k) ((k : Int) % 8) k = -1 := fnd_no fun j hj => by
    rw [acaL_length] at hj
    rw [acaL_gi _ _ _ hj]
    have : ¬ (j : Int) = k := by omega
    simp [hit, this]
  rw [ent, if_neg h1, h3, if_neg (by decide), if_neg h2, acaL_length, if_neg (by omega)]
  simp [acaL, List.range_succ]
/-- Few tasks, none of them for an allegiance, with small tags. -/
def Few (l : List T) : Prop := l.length ≤ 10 ∧ ∀ t ∈ l, ¬ t.at_ = 3 ∧ t.tag < 100
theorem acaL_few (attrs : List Int) (k : Nat) (hk : k ≤ 10) : Few (acaL attrs k) := by
  refine ⟨by rw [acaL_length]; exact hk, fun t ht => ?_⟩
  simp only [acaL, List.mem_map, List.mem_range] at ht
  obtain ⟨i, hi, rfl⟩ := ht
  exact ⟨by show ¬ gi attrs i % 3 = 3; omega, by show (i : Int) < 100; omega⟩
theorem Few.at_ {l : List T} (h : Few l) {i : Nat} (hi : i < l.length) : ¬ (gi l i).at_ = 3 ∧ (gi l i).tag < 100 := h.2 _ (by rw [gi_eq l i hi]; exact List.getElem_mem _)
theorem Few.fnd {l : List T} (h : Few l) (nx tag : Int) (ht : 100 ≤ tag) : fnd l nx tag = -1 := fnd_no fun j hj => by
  have := (h.at_ hj).2
  have h2 : ¬ (gi l j).tag = tag := by omega
  simp [hit, h2]
theorem readyTo_none {l : List T} {aca : Int} (k : Nat) (h : ∀ i, i < k → mayB l aca i = false) : readyTo l aca k = [] := by
  unfold readyTo
  rw [List.filter_eq_nil_iff.2 (fun i hi => by rw [h i (List.mem_range.1 hi)]; decide)]
  rfl
section
variable {l : List T} {k : Int}
theorem Few.ready (h : Few l) (h0 : 0 ≤ k) : readyL l k = [] := readyTo_none _ fun i hi => by
  have := (h.at_ hi).1
  simp [mayB, h0, this]
theorem Few.ent1 (h : Few l) (h0 : 0 ≤ k ∧ k < 8) : ent l k ⟨k, 100, 0, false⟩ = (48, 0, l) := by
  have h1 : ¬ (k < 0 ∨ 8 ≤ k ∨ (3 : Int) < 0) := by omega
  have h2 : barred k (⟨k, 100, 0, false⟩ : T) := .inl ⟨h0.1, .inr (by show ¬ (0 : Int) = 3; omega)⟩
  rw [ent, if_neg h1, h.fnd k 100 (by decide), if_neg (by decide), if_pos h2]
theorem Few.ent2 (h : Few l) (h0 : 0 ≤ k ∧ k < 8) : ent l k ⟨(k + 1) % 8, 101, 3, false⟩ = (48, 0, l) := by
  have h1 : ¬ ((k + 1) % 8 < 0 ∨ 8 ≤ (k + 1) % 8 ∨ (3 : Int) < 3) := by omega
  have h2 : barred k (⟨(k + 1) % 8, 101, 3, false⟩ : T) := .inl ⟨h0.1, .inl (by show ¬ (k + 1) % 8 = k; omega)⟩
  rw [ent, if_neg h1, h.fnd _ 101 (by decide), if_neg (by decide), if_pos h2]
/-- The one that comes for the allegiance. -/
abbrev xT (k : Int) : T := ⟨k, 102, 3, false⟩
theorem Few.ent3 (h : Few l) (h0 : 0 ≤ k ∧ k < 8) : ent l k (xT k) = (0, 0, l ++ [xT k]) := by
  have h1 : ¬ (k < 0 ∨ 8 ≤ k ∨ (3 : Int) < 3) := by omega
  have h2 : ¬ barred k (xT k) := by
    rintro (⟨_, h | h⟩ | ⟨h, _⟩)
    · exact h rfl
    · exact h rfl
    · omega
  rw [ent, if_neg h1, h.fnd k 102 (by decide), if_neg (by decide), if_neg h2, if_neg (by have := h.1; omega)]
theorem Few.ready3 (h : Few l) (h0 : 0 ≤ k) : readyL (l ++ [xT k]) k = [xT k] := by
  have hx : gi (l ++ [xT k]) l.length = xT k := gi_mid l [] _
  have hy : mayB (l ++ [xT k]) k l.length = true := by rw [mayB, hx, if_pos h0]; rfl
  unfold readyL
  rw [List.length_append, List.length_singleton, readyTo_yes hy, hx, readyTo_none]
  · rfl
  · intro i hi
    rw [mayB, gi_append_left _ _ _ hi, if_pos h0]
    have := (h.at_ hi).1
    simp [this]
theorem Few.gone (h : Few l) : (l ++ [xT k]).filter pAca = [xT k] := by
  rw [List.filter_append, List.filter_eq_nil_iff.2 (fun t ht => by have := (h.2 t ht).1; simp [pAca, this])]
  rfl
theorem Few.left (h : Few l) : (l ++ [xT k]).filter (fun t => !pAca t) = l := by
  rw [List.filter_append, List.filter_eq_self.2 (fun t ht => by have := (h.2 t ht).1; simp [pAca, this])]
  simp [pAca]
theorem est1 (h0 : 0 ≤ k ∧ k < 8) : est (-1) k = (0, k) := by rw [est, if_neg (by omega), if_neg (by decide)]
theorem est2 (h0 : 0 ≤ k ∧ k < 8) : est k k = (12, k) := by rw [est, if_neg (by omega), if_pos h0.1]
end
end Go.Proofs.Ytabkplmpkdbchaa
