/-
  A map from names to slices, as a function: what each operation on it leaves. Plain lemmas; conditions as stated.
-/
import Derived.Test.YtjkpelbhhapebaaGreatDoorMem
import Derived.Maps.OwnSet
import Derived.Maps.Views
import Derived.Maps.OwnOps
namespace Go.Proofs.YtjkpelbhhapebaaGreatDoor.W
open Go.RowKit Go.Maps
set_option maxRecDepth 100000
/-- An element is what it is. -/
def Rv (v : Value) : Option (DataW Value × List MemPlace) := some (.held v, [])
theorem law : Keyed Tryz.prog 9 := string_keyed Tryz.underlying9
theorem zeroS (w : World) : (zeroValue 22).run Tryz.prog w = .ok (.slice none 0 0) w := by kernel_rfl
/-- A name as a key. -/
def kl (s : ByteArray) : Lit := .string s.data.toList
theorem kl_key {s : ByteArray} (h : s.size ≤ maxLen) : keyOf Tryz.prog 9 (.string s) = some (kl s) := Go.WideMaps.keyOf_string_mk Tryz.underlying9 h
theorem kl_inj {s t : ByteArray} (h : kl s = kl t) : s = t := by
  unfold kl at h
  injection h with h
  cases s; cases t
  congr 1
  exact Array.toList_inj.1 h
theorem kl_lit (s : ByteArray) : WideAt.IsKeyLit (kl s) := trivial
/-- Block mb is a map of at most n entries; it reads as m. -/
def FM (w : World) (mb n : Nat) (m : ByteArray → Option Value) : Prop :=
  ∃ D : DataW Value, w.ownsMap Tryz.prog 9 Rv mb n D ∧ ∀ s, match m s with
    | some v => Maps.has D (kl s) = true ∧ ∀ z, D.atKey (kl s) z = .held v
    | none => Maps.has D (kl s) = false
theorem FM.lt {w : World} {mb n : Nat} {m : ByteArray → Option Value} (h : FM w mb n m) : mb < w.heap.size := by obtain ⟨D, h, _⟩ := h; exact h.lt
theorem FM.mono {w : World} {mb n k : Nat} {m : ByteArray → Option Value} (h : FM w mb n m) (hk : n ≤ k) : FM w mb k m := by obtain ⟨D, h, h2⟩ := h; exact ⟨D, h.mono hk, h2⟩
theorem FM.mod {w w' : World} {mb n : Nat} {m : ByteArray → Option Value} {F : Nat → Prop} (h : FM w mb n m) (hm : Mod F w w') (hn : ¬ F mb) : FM w' mb n m := by
  obtain ⟨D, ⟨es, clock, hb, h1, h3, h4⟩, h2⟩ := h
  exact ⟨D, ⟨es, clock, hm.heap hb hn, h1, h3, h4⟩, h2⟩
theorem FM.made (w : World) : FM (w.alloc (.map #[] 0)) w.heap.size 0 (fun _ => none) :=
  ⟨.map [], World.ownsMap_made _ _ _ _, fun _ => rfl⟩
theorem held_inj {a b : Value} (h : (DataW.held a : DataW Value) = .held b) : a = b := by injection h
theorem FM.look {w : World} {mb n : Nat} {m : ByteArray → Option Value} (h : FM w mb n m) (s : ByteArray) (hs : s.size ≤ maxLen) :
    (Instr.lookup 72 (.map (some mb)) (.string s) false).run Tryz.prog w = .ok ((m s).getD (.slice none 0 0)) w := by
  obtain ⟨D, h1, h2⟩ := h
  obtain ⟨v, ps, hr, hv⟩ := h1.lookup law Tryz.underlying72 (zeroS w) (zd := .held (.slice none 0 0)) (zp := []) rfl (kl_key hs)
  rw [hr]
  have h3 := h2 s
  have h4 : (DataW.held v : DataW Value) = D.atKey (kl s) (.held (.slice none 0 0)) := congrArg Prod.fst (Option.some.inj hv)
  cases hm : m s with
  | some u =>
    rw [hm] at h3
    rw [h3.2] at h4
    rw [held_inj h4]
    rfl
  | none =>
    rw [hm] at h3
    rw [atKey_of_not_has h3] at h4
    rw [held_inj h4]
    rfl
theorem FM.look_ok {w : World} {mb n : Nat} {m : ByteArray → Option Value} (h : FM w mb n m) (s : ByteArray) (hs : s.size ≤ maxLen) :
    (Instr.lookup 72 (.map (some mb)) (.string s) true).run Tryz.prog w = .ok (.tuple #[(m s).getD (.slice none 0 0), .bool (m s).isSome]) w := by
  obtain ⟨D, h1, h2⟩ := h
  obtain ⟨v, ps, hr, hv⟩ := h1.look_ok law Tryz.underlying72 (zeroS w) (zd := .held (.slice none 0 0)) (zp := []) rfl (kl_key hs)
  rw [hr]
  have h3 := h2 s
  have h4 : (DataW.held v : DataW Value) = D.atKey (kl s) (.held (.slice none 0 0)) := congrArg Prod.fst (Option.some.inj hv)
  cases hm : m s with
  | some u =>
    rw [hm] at h3
    rw [h3.2] at h4
    rw [held_inj h4, h3.1]
    rfl
  | none =>
    rw [hm] at h3
    rw [atKey_of_not_has h3] at h4
    rw [held_inj h4, h3]
    rfl
theorem turned_mod {w w' : World} {b : Nat} (h : w.mapTurned w' b) : Mod (fun k => k = b) w w' := by
  have g := h.grown
  exact ⟨g.os, g.tape, g.output, g.size, fun k hk hn => g.block k hk (fun e => hn (Option.some.inj e))⟩
theorem FM.store {w : World} {mb n : Nat} {m : ByteArray → Option Value} (h : FM w mb n m) (hn : n < maxLen) (s : ByteArray) (hs : s.size ≤ maxLen) (v : Value) :
    ∃ w', (Instr.mapUpdate 72 (.map (some mb)) (.string s) v).run Tryz.prog w = .ok () w' ∧ FM w' mb (n + 1) (fun t => if t = s then some v else m t) ∧ Mod (fun k => k = mb) w w' := by
  obtain ⟨D, h1, h2⟩ := h
  have hD := h1.isMap
  obtain ⟨w', hr, h3, h4⟩ := h1.store law Tryz.underlying72 hn (kl_key hs) (d := .held v) (ps := []) rfl
  refine ⟨w', hr, ⟨_, h3, fun t => ?_⟩, turned_mod h4⟩
  by_cases e : t = s
  · subst e
    simp only [if_true]
    exact ⟨has_put_same hD (kl_lit t) _, fun z => atKey_put_same hD (kl_lit t) _ z⟩
  · simp only [if_neg e]
    have hne : kl t ≠ kl s := fun h => e (kl_inj h)
    have := h2 t
    cases hm : m t with
    | some u =>
      rw [hm] at this
      exact ⟨by rw [has_put_other hne]; exact this.1, fun z => by rw [atKey_put_other hne]; exact this.2 z⟩
    | none =>
      rw [hm] at this
      show Maps.has _ _ = false
      rw [has_put_other hne]; exact this
theorem FM.drop {w : World} {mb n : Nat} {m : ByteArray → Option Value} (h : FM w mb n m) (s : ByteArray) (hs : s.size ≤ maxLen) (ty : TypeId) :
    ∃ w', (Builtin.delete_ #[72, 9] ty #[.map (some mb), .string s]).run Tryz.prog w = .ok (.tuple #[]) w' ∧ FM w' mb n (fun t => if t = s then none else m t) ∧ Mod (fun k => k = mb) w w' := by
  obtain ⟨D, h1, h2⟩ := h
  obtain ⟨w', hr, h3, h4⟩ := h1.drop law Tryz.underlying72 (kl_key hs) ty
  refine ⟨w', hr, ⟨_, h3, fun t => ?_⟩, turned_mod h4⟩
  by_cases e : t = s
  · subst e
    simp only [if_true]
    exact has_del_same
  · simp only [if_neg e]
    have hne : kl t ≠ kl s := fun h => e (kl_inj h)
    have := h2 t
    cases hm : m t with
    | some u =>
      rw [hm] at this
      exact ⟨by rw [has_del_other hne]; exact this.1, fun z => by rw [atKey_del_other hne]; exact this.2 z⟩
    | none =>
      rw [hm] at this
      show Maps.has _ _ = false
      rw [has_del_other hne]; exact this
end Go.Proofs.YtjkpelbhhapebaaGreatDoor.W
