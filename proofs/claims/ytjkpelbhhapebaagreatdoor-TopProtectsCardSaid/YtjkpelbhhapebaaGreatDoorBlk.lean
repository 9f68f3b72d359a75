/-
  Laws for structs of many cells, whole: a store into a block of its own, a copy into its head, a result that is one. Conditions: as stated.
-/
import Derived.Test.YtjkpelbhhapebaaGreatDoorRec
import Derived.Laws.IdiomCopy
import Derived.Deep.MidRow
import Derived.Laws.CopyRow
namespace Go.Proofs.YtjkpelbhhapebaaGreatDoor
open Go.RowKit
set_option maxRecDepth 100000
theorem setCells_heap (b : Nat) (t : TypeId) : ∀ (vs : List Value) (o : Nat) (w : World) (cs : Array Value), w.heap[b]? = some (.cells cs t (0, 0)) →
    ∃ cs', (w.setCells b o vs).heap[b]? = some (.cells cs' t (0, 0)) ∧ cs'.size = cs.size ∧ (∀ j, o ≤ j → j < o + vs.length → j < cs.size → cs'[j]? = vs[j - o]?) ∧ (∀ j, j < o ∨ o + vs.length ≤ j → cs'[j]? = cs[j]?) ∧
      Mod (fun k => k = b) w (w.setCells b o vs)
  | [], o, w, cs, h => ⟨cs, h, rfl, fun j h1 h2 => by simp at h2; omega, fun _ _ => rfl, Mod.refl _ _⟩
  | v :: r, o, w, cs, h => by
    have h1 := heap_setCell_same w b o cs t v h
    obtain ⟨cs', k1, k2, k3, k4, k5⟩ := setCells_heap b t r (o + 1) _ _ h1
    have hm : Mod (fun k => k = b) w (w.setCell ⟨b, o, none⟩ v) := (Mod.refl (fun k => k = b) w).setCell (p := ⟨b, o, none⟩) (.inl rfl) _
    refine ⟨cs', k1, by rw [k2]; simp, fun j h2 h3 h4 => ?_, fun j h2 => ?_, hm.trans k5 fun _ _ h => h⟩
    · by_cases e : j = o
      · subst e
        rw [k4 j (.inl (by omega))]
        simp [h4]
      · rw [k3 j (by omega) (by simp at h3; omega) (by simpa using h4)]
        rw [show j - o = (j - (o + 1)) + 1 from by omega]
        rfl
    · rw [k4 j (by simp at h2; omega)]
      have : ¬ o = j := by simp at h2; omega
      simp [this]
section
variable {P : Program} {w : World} {ops : Array Oper} {rest : List Oper} {o : Oper} {a : Act} {Q : Exit → Act → World → Prop}
/-- A struct is stored whole, over a block of its own type. -/
theorem list_put (T : TypeId) (x y : Operand) (ho : o.op = .store T x y) (hg : o.guard = none) (b : Nat) (cells : Array Value) (hx : a.eval x = .pointer (some ⟨b, 0, none⟩)) (hy : a.eval y = .agg cells)
    (zs : Array Value) (hh : w.heap[b]? = some (.cells zs T (0, 0))) (hsz : zs.size = cells.size) (hi : (P.info? T).map (·.size) = some cells.size) (h1 : cells.all (·.oneCell') = true)
    (h : ∀ w', w'.heap[b]? = some (.cells cells T (0, 0)) → Mod (fun k => k = b) w w' → wpList P ops Q rest (a.put o.dst undef) w') : wpList P ops Q (o :: rest) a w := by
  refine wpList_store_mid hg T x y ho b 0 cells hx hy (fun j hj => ?_) hi h1 ?_
  · refine ⟨?_, frozen_of_row w b _ zs T hh⟩
    rw [cell_of_row w b (0 + j) zs T (0, 0) hh, Nat.zero_add, Array.getElem?_eq_getElem (by omega)]
    rfl
  · obtain ⟨cs', k1, k2, k3, -, k5⟩ := setCells_heap b T cells.toList 0 w zs hh
    have e : cs' = cells := by
      apply Array.ext
      · omega
      · intro i h1 h2
        have := k3 i (by omega) (by simpa using h2) (by omega)
        rw [Array.getElem?_eq_getElem h1] at this
        simp only [Nat.sub_zero, Array.getElem?_toList] at this
        rw [Array.getElem?_eq_getElem h2] at this
        exact Option.some.inj this
    rw [e] at k1
    exact h _ k1 k5
end
/-- The world by another name. -/
theorem wp_at {P : Program} {c : Code} {Q : Exit → Act → World → Prop} {a : Act} {W W' : World} (h : W' = W) (k : Code.wp P c Q a W') : Code.wp P c Q a W := h ▸ k
theorem q_at {Q : Exit → Act → World → Prop} {x : Exit} {a : Act} {W W' : World} (h : W' = W) (k : Q x a W') : Q x a W := h ▸ k
/-- A result that is a variable of its own, read whole. -/
theorem results_one {P : Program} {W : World} {fn : Func} {tmps : Array Value} {k : Nat} {T : TypeId} {ad : Addr} {v : Value} (hfn : fn.results = #[.cell k T]) (ht : tmps.getD k undef = .pointer (some ad)) (hl : (loadVar T ad).run P W = .ok v W) :
    (results fn tmps).run P W = .ok v W := by
  unfold results
  simp only [hfn, List.mapM_toArray, List.mapM_cons, List.mapM_nil, ht, asAddr, Sem.run_bind, Sem.run_pure, Result.andThen_ok, hl, Sem.run_map, bind_pure_comp, map_pure]
  rfl
/-- A struct in a block, whole. -/
theorem load_whole {P : Program} {w : World} {b : Nat} {T : TypeId} {cs : Array Value} {d : TypeDesc} (hh : w.heap[b]? = some (.cells cs T (0, 0))) (hu : P.underlying T = some d) (hd : (match d with | .struct _ | .array _ _ => true | _ => false) = true)
    (hi : (P.info? T).map (·.size) = some cs.size) : (loadVar T ⟨b, 0, none⟩).run P w = .ok (.agg cs) w := by
  have := run_loadVar_at (P := P) w T ⟨b, 0, none⟩ cs.toList d (fun j u hu => by
    rw [Addr.add_mid, Nat.zero_add, cell_of_row w b j cs T (0, 0) hh]
    simpa using hu) hu hd (by simpa using hi)
  simpa using this
theorem size259 : (Tryz.prog.info? 259).map (·.size) = some 19 := by kernel_rfl
theorem ba_size (b : Bl) : (ba b).size = 19 := by simp [ba, encB_len]
theorem ba_one (b : Bl) : (ba b).all (·.oneCell') = true := all_oneCell_toArray (encB_one b)
theorem load_ba {w : World} {g : Nat} {b : Bl} (hh : w.heap[g]? = some (.cells (ba b) 259 (0, 0))) : (loadVar 259 ⟨g, 0, none⟩).run Tryz.prog w = .ok (.agg (ba b)) w :=
  load_whole hh Tryz.underlying259 rfl (by rw [ba_size]; exact size259)
end Go.Proofs.YtjkpelbhhapebaaGreatDoor
