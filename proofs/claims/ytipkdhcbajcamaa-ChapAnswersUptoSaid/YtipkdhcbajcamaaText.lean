/-
  Texts and bytes, plainly. No condition beyond what each states.
-/
import Derived.Test.YtipkdhcbajcamaaAwake
namespace Go.Proofs.Ytipkdhcbajcamaa
open Go.RowKit
/-- A string's bytes. -/
def sb (s : ByteArray) : List Int := s.data.toList.map fun c => (c.toNat : Int)
theorem sb_len (s : ByteArray) : (sb s).length = s.size := by simp [sb]
theorem sb_by (s : ByteArray) : ∀ x ∈ sb s, 0 ≤ x ∧ x ≤ 255 := by
  intro x hx
  simp only [sb, List.mem_map] at hx
  obtain ⟨c, _, rfl⟩ := hx
  have := c.toNat_lt
  omega
theorem strOf_push (L : List Int) (r : ByteArray) : (L.foldl (fun r n => r.push (UInt8.ofNat n.toNat)) r).data.toList = r.data.toList ++ L.map fun n => UInt8.ofNat n.toNat := by
  induction L generalizing r with
  | nil => simp
  | cons a l ih => rw [List.foldl_cons, ih]; simp [ByteArray.push]
theorem strOf_data (L : List Int) : (strOf L).data.toList = L.map fun n => UInt8.ofNat n.toNat := by
  unfold strOf
  rw [strOf_push]
  rfl
theorem sb_strOf (L : List Int) (h : ∀ x ∈ L, 0 ≤ x ∧ x ≤ 255) : sb (strOf L) = L := by
  unfold sb
  rw [strOf_data, List.map_map]
  conv => rhs; rw [← List.map_id L]
  apply List.map_congr_left
  intro x hx
  obtain ⟨h0, h1⟩ := h x hx
  simp
  omega
theorem strOf_sb (s : ByteArray) : strOf (sb s) = s := by
  have h : (strOf (sb s)).data.toList = s.data.toList := by
    rw [strOf_data, sb, List.map_map]
    conv => rhs; rw [← List.map_id s.data.toList]
    apply List.map_congr_left
    intro x _
    simp
  cases hs : strOf (sb s) with
  | mk d =>
    cases s with
    | mk d' =>
      rw [hs] at h
      congr 1
      exact Array.toList_inj.1 h
theorem strOf_inj {L M : List Int} (hL : ∀ x ∈ L, 0 ≤ x ∧ x ≤ 255) (hM : ∀ x ∈ M, 0 ≤ x ∧ x ≤ 255) (h : strOf L = strOf M) : L = M := by
  rw [← sb_strOf L hL, ← sb_strOf M hM, h]
theorem strOf_size (L : List Int) : (strOf L).size = L.length := by
  have := congrArg List.length (strOf_data L)
  simpa using this
theorem strOf_append (L M : List Int) : strOf (L ++ M) = strOf L ++ strOf M := by
  have h : (strOf (L ++ M)).data.toList = (strOf L ++ strOf M).data.toList := by
    rw [strOf_data, ByteArray.data_append, Array.toList_append, strOf_data, strOf_data, List.map_append]
  cases hs : strOf (L ++ M) with
  | mk d =>
    cases ht : strOf L ++ strOf M with
    | mk d' =>
      rw [hs, ht] at h
      congr 1
      exact Array.toList_inj.1 h
theorem sb_get (s : ByteArray) (i : Nat) (h : i < s.size) : gi (sb s) i = (s[i].toNat : Int) := by
  rw [gi_eq _ _ (by rw [sb_len]; exact h)]
  simp [sb]
  rfl
/-- A digit's value; below 0: none. -/
def dv (c : Int) : Int := if 48 ≤ c ∧ c ≤ 57 then c - 48 else if 97 ≤ c ∧ c ≤ 102 then c - 87 else if 65 ≤ c ∧ c ≤ 70 then c - 55 else -1
theorem dv_bd (c : Int) : -1 ≤ dv c ∧ dv c ≤ 15 := by
  unfold dv
  split
  · omega
  · split
    · omega
    · split <;> omega
/-- The text begins as it should, and has an even length. -/
def okH (L : List Int) : Prop := L.length % 2 = 0 ∧ 2 ≤ L.length ∧ gi L 0 = 48 ∧ (gi L 1 = 120 ∨ gi L 1 = 88)
/-- The first k pairs are digits. -/
def okP (L : List Int) (k : Nat) : Prop := ∀ j, j < k → 0 ≤ dv (gi L (2 + 2 * j)) ∧ 0 ≤ dv (gi L (2 + 2 * j + 1))
def ps (L : List Int) (k : Nat) : List Int := (List.range k).map fun j => 16 * dv (gi L (2 + 2 * j)) + dv (gi L (2 + 2 * j + 1))
theorem ps_len (L : List Int) (k : Nat) : (ps L k).length = k := by simp [ps]
theorem ps_snoc (L : List Int) (k : Nat) : ps L k ++ [16 * dv (gi L (2 + 2 * k)) + dv (gi L (2 + 2 * k + 1))] = ps L (k + 1) := by simp [ps, List.range_succ]
theorem okP_succ {L : List Int} {k : Nat} (h : okP L k) (h1 : 0 ≤ dv (gi L (2 + 2 * k))) (h2 : 0 ≤ dv (gi L (2 + 2 * k + 1))) : okP L (k + 1) := by
  intro j hj
  by_cases e : j = k
  · subst e; exact ⟨h1, h2⟩
  · exact h j (by omega)
open Classical in
/-- What a text says. -/
noncomputable def unL (L : List Int) : List Int × Int := if okH L ∧ okP L ((L.length - 2) / 2) then (ps L ((L.length - 2) / 2), 0) else ([], 13)
theorem unL_bad {L : List Int} (h : ¬ (okH L ∧ okP L ((L.length - 2) / 2))) : unL L = ([], 13) := by unfold unL; rw [if_neg h]
theorem unL_good {L : List Int} (h : okH L) (h2 : okP L ((L.length - 2) / 2)) : unL L = (ps L ((L.length - 2) / 2), 0) := by unfold unL; rw [if_pos ⟨h, h2⟩]
theorem unL_by (L : List Int) : ∀ x ∈ (unL L).1, 0 ≤ x ∧ x ≤ 255 := by
  intro x hx
  by_cases h : okH L ∧ okP L ((L.length - 2) / 2)
  · rw [unL_good h.1 h.2] at hx
    simp only [ps, List.mem_map, List.mem_range] at hx
    obtain ⟨j, hj, rfl⟩ := hx
    have h1 := h.2 j hj
    have h2 := dv_bd (gi L (2 + 2 * j))
    have h3 := dv_bd (gi L (2 + 2 * j + 1))
    omega
  · rw [unL_bad h] at hx
    cases hx
theorem unL_code (L : List Int) : (unL L).2 = 0 ∨ (unL L).2 = 13 := by
  by_cases h : okH L ∧ okP L ((L.length - 2) / 2)
  · rw [unL_good h.1 h.2]; exact .inl rfl
  · rw [unL_bad h]; exact .inr rfl
theorem unL_len (L : List Int) : (unL L).1.length ≤ L.length := by
  by_cases h : okH L ∧ okP L ((L.length - 2) / 2)
  · rw [unL_good h.1 h.2]; simp only [ps_len]; omega
  · rw [unL_bad h]; simp
/-- A digit's letter in upper case. -/
def up (c : Int) : Int := if 97 ≤ c ∧ c ≤ 102 then c - 32 else c
theorem dv_hex (i : Nat) (h : i < 16) : dv (gi hexC i) = i ∧ dv (up (gi hexC i)) = i := by
  have : ∀ j : Fin 16, dv (gi hexC j.val) = (j.val : Int) ∧ dv (up (gi hexC j.val)) = (j.val : Int) := by decide
  exact this ⟨i, h⟩
theorem hexD_get (l : List Int) : ∀ j, j < l.length → gi (hexD l) (2 * j) = gi hexC (gi l j / 16).toNat ∧ gi (hexD l) (2 * j + 1) = gi hexC (gi l j % 16).toNat := by
  induction l with
  | nil => intro j hj; simp at hj
  | cons a l ih =>
    intro j hj
    cases j with
    | zero => exact ⟨rfl, rfl⟩
    | succ j =>
      have := ih j (by simpa using hj)
      have e : ∀ m, gi (hexD (a :: l)) (m + 2) = gi (hexD l) m := fun m => by simp [gi, hexD, List.flatMap_cons]
      have e2 : gi (a :: l) (j + 1) = gi l j := by simp [gi]
      rw [show 2 * (j + 1) = 2 * j + 2 from by omega, show 2 * j + 2 + 1 = (2 * j + 1) + 2 from by omega, e, e, e2]
      exact this
theorem hexL_get (l : List Int) (m : Nat) : gi (hexL l) (2 + m) = gi (hexD l) m := by
  rw [Nat.add_comm]
  simp [gi, hexL]
theorem hexL_by (l : List Int) (h : ∀ x ∈ l, 0 ≤ x ∧ x ≤ 255) : ∀ x ∈ hexL l, 0 ≤ x ∧ x ≤ 255 := by
  intro x hx
  simp only [hexL, hexD, List.mem_append, List.mem_flatMap] at hx
  rcases hx with hx | ⟨b, hb, hx⟩
  · simp at hx; omega
  · obtain ⟨h0, h1⟩ := h b hb
    simp at hx
    rcases hx with rfl | rfl
    · exact hexC_bd _ (by omega)
    · exact hexC_bd _ (by omega)
theorem ps_of {L l : List Int} (h : ∀ x ∈ l, 0 ≤ x ∧ x ≤ 255) (hl : L.length = 2 + 2 * l.length) (h0 : gi L 0 = 48) (h1 : gi L 1 = 120 ∨ gi L 1 = 88)
    (hg : ∀ j, j < l.length → dv (gi L (2 + 2 * j)) = gi l j / 16 ∧ dv (gi L (2 + 2 * j + 1)) = gi l j % 16) : unL L = (l, 0) := by
  have hn : (L.length - 2) / 2 = l.length := by omega
  have hp : okP L ((L.length - 2) / 2) := by
    rw [hn]
    intro j hj
    obtain ⟨a, b⟩ := hg j hj
    obtain ⟨c, d⟩ := h _ (gi_mem hj)
    rw [a, b]
    omega
  rw [unL_good ⟨by omega, by omega, h0, h1⟩ hp, hn]
  congr 1
  apply List.ext_getElem (by simp [ps])
  intro i hi hi2
  obtain ⟨a, b⟩ := hg i hi2
  rw [← gi_eq l i hi2]
  simp only [ps, List.getElem_map, List.getElem_range, a, b]
  omega
theorem unL_hex (l : List Int) (h : ∀ x ∈ l, 0 ≤ x ∧ x ≤ 255) : unL (hexL l) = (l, 0) := by
  refine ps_of h (hexL_len l) rfl (.inl rfl) fun j hj => ?_
  obtain ⟨a, b⟩ := hexD_get l j hj
  obtain ⟨c, d⟩ := h _ (gi_mem hj)
  rw [hexL_get, show 2 + 2 * j + 1 = 2 + (2 * j + 1) from by omega, hexL_get, a, b, (dv_hex _ (by omega)).1, (dv_hex _ (by omega)).1]
  omega
/-- The text in upper case. -/
def upL (L : List Int) : List Int := L.map up
theorem upL_get (L : List Int) (i : Nat) : gi (upL L) i = up (gi L i) := by
  simp only [gi, upL, List.getD_eq_getElem?_getD, List.getElem?_map]
  cases L[i]? <;> rfl
theorem unL_up (l : List Int) (h : ∀ x ∈ l, 0 ≤ x ∧ x ≤ 255) : unL (upL (hexL l)) = (l, 0) := by
  refine ps_of h (by rw [upL, List.length_map, hexL_len]) rfl (.inl rfl) fun j hj => ?_
  obtain ⟨a, b⟩ := hexD_get l j hj
  obtain ⟨c, d⟩ := h _ (gi_mem hj)
  rw [upL_get, upL_get, hexL_get, show 2 + 2 * j + 1 = 2 + (2 * j + 1) from by omega, hexL_get, a, b, (dv_hex _ (by omega)).2, (dv_hex _ (by omega)).2]
  omega
theorem hexL_inj {l m : List Int} (hl : ∀ x ∈ l, 0 ≤ x ∧ x ≤ 255) (hm : ∀ x ∈ m, 0 ≤ x ∧ x ≤ 255) (h : hexL l = hexL m) : l = m := by
  have a := unL_hex l hl
  rw [h, unL_hex m hm] at a
  exact (congrArg Prod.fst a).symm
end Go.Proofs.Ytipkdhcbajcamaa
