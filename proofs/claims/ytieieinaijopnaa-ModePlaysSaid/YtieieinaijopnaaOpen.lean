/-
  A slice of whatever elements that came in, read as a list: plain lemmas on the form's own reading. No condition beyond what each states.
-/
import Derived.Test.YtieieinaijopnaaMem
import Derived.ProofKit
import Derived.OpenShut
import Derived.ShutString
import Derived.ChangeOld
import Derived.Below
import Derived.Deep.Slices
import Derived.Deep.Fields
namespace Go.Proofs.Ytieieinaijopnaa
open Go.RowKit Go.ChangeShapes Go.WideShapes Go.Deep

/-- A field's cell, as the walk spells it. -/
theorem fld {w : World} {ad : Addr} {m j : Nat} {u : Value} (h : w.cell? (ad.add (m + j)) = some u) (hj : j ≠ 0) : w.cell? ⟨(ad.add m).block, (ad.add m).off + j, none⟩ = some u := by
  rw [← addr_add] at h
  have e : (ad.add m).add j = ⟨(ad.add m).block, (ad.add m).off + j, none⟩ := by
    generalize ad.add m = q
    simp [Addr.add, hj]
  rwa [e] at h

section
variable {H : Type} {tok : TypeId × Value → H} {P : Program} {w : World} {base : Nat} {spare : Nat → Bool} {held : Bool}
/-- Each element's cells are those of some a. -/
theorem open_rows {α : Type} [Inhabited α] {t e : TypeId} {sz fuel : Nat} {cs : List Value} {x : DataW H × List MemPlace} (enc : α → List Value) (Wf : α → Prop) (ht : P.underlying t = some (.slice e)) (hC : P.cellsOf e = sz)
    (hT : ∀ n cs' y, DataW.trod tok P w base spare held n e cs' = some y → ∃ a, cs' = enc a ∧ Wf a) (he : ∀ a, (enc a).length = sz)
    (h : DataW.trod tok P w base spare held fuel t cs = some x) :
    ∃ (A : Option Addr) (len cap : Nat) (l : List α), cs = [.slice A len cap] ∧ len ≤ cap ∧ cap ≤ maxLen ∧ Rd w sz enc A len l ∧ (∀ a ∈ l, Wf a) ∧ ∀ ad, A = some ad → 0 < len → ad.block < w.heap.size ∨ sz = 0 := by
  rcases open_slice ht h with ⟨rfl, _⟩ | ⟨a, len, cap, m, n, D, Pl, rfl, _, hl, hm, hmm, _, hi⟩
  · exact ⟨none, 0, 0, [], rfl, Nat.le_refl _, by simp [maxLen], Rd.none_ _ _ _ _, fun a ha => (by cases ha), fun ad e => by cases e⟩
  · have hlm : len ≤ m := by rw [hmm]; split <;> omega
    rw [hC] at hi
    obtain ⟨V, hV⟩ := choose_lt (α := α) (p := fun i v => (∀ j, j < sz → w.cell? ((a.add (i * sz)).add j) = (enc v)[j]?) ∧ Wf v) (n := len) (fun i hil => by
      obtain ⟨cs', h1, h2⟩ := hi i (by omega)
      obtain ⟨v, rfl, hw⟩ := hT _ _ _ h2
      exact ⟨v, (World.cells?_some h1).2.2, hw⟩)
    have hcell : ∀ i, i < len → ∀ j u, (enc (V i))[j]? = some u → w.cell? (a.add (i * sz + j)) = some u := fun i hil j u hu => by
      have hj : j < sz := by
        have := (List.getElem?_eq_some_iff.1 hu).1
        rwa [he] at this
      have := (hV i hil).1 j hj
      rw [addr_add, hu] at this
      exact this
    refine ⟨some a, len, cap, (List.range len).map V, rfl, hl, hm, ⟨by simp, fun i hil => ⟨a, rfl, fun j u hu => ?_⟩⟩, fun x hx => ?_, fun ad e hp => ?_⟩
    · refine hcell i hil j u ?_
      rw [← hu, gi_eq _ _ (by simpa using hil)]
      simp
    · simp only [List.mem_map, List.mem_range] at hx
      obtain ⟨i, hil, rfl⟩ := hx
      exact (hV i hil).2
    · obtain rfl := Option.some.inj e
      by_cases hs : sz = 0
      · exact .inr hs
      · left
        have hne : 0 < (enc (V 0)).length := by rw [he]; omega
        have := World.block_lt_of_cell? w _ (hcell 0 hp 0 _ (List.getElem?_eq_getElem hne))
        have hb : (a.add (0 * sz + 0)).block = a.block := by simp [Addr.add]
        rwa [hb] at this
/-- A struct whose fields are one cell each: its cells, field by field. -/
theorem open_fields {e : TypeId} {fs : Array Field} {n : Nat} {cs' : List Value} {y : DataW H × List MemPlace} (he : P.underlying e = some (.struct fs)) (hone : oneCellFields P fs = true) (hC : P.cellsOf e = fs.size)
    (h : DataW.trod tok P w base spare held n e cs' = some y) : cs'.length = fs.size ∧ ∀ (j : Nat) (f : Field), fs[j]? = some f → ∃ v m z, cs'[j]? = some v ∧ DataW.trod tok P w base spare held m f.type [v] = some z := by
  obtain ⟨xs, m, _, _, hlen, hxl, hf⟩ := DataW.trod_struct he h
  rw [hC] at hlen
  refine ⟨hlen, fun j f hj => ?_⟩
  obtain ⟨ho, hk⟩ := hone_of hone j f hj
  have hjl : j < fs.size := (Array.getElem?_eq_some_iff.1 hj).1
  have h1 := hf j f hj
  rw [ho, hk] at h1
  have hone' : (cs'.drop j).take 1 = [cs'[j]'(by omega)] := by
    rw [List.drop_eq_getElem_cons (by omega)]
    rfl
  rw [hone'] at h1
  exact ⟨_, m, _, List.getElem?_eq_getElem (by omega), h1.trans (List.getElem?_eq_getElem (by omega))⟩
end
end Go.Proofs.Ytieieinaijopnaa
