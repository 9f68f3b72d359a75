/-
  The world's own block, its plan of failures, and 'call', walked. Conditions: fewer than a milliard calls.
-/
import Derived.Test.YtjkpelbhhapebaaGreatDoorWAps
namespace Go.Proofs.YtjkpelbhhapebaaGreatDoor.W
open Go.RowKit Go.Maps
set_option maxRecDepth 100000
/-- The world's block. -/
def Bk (w : World) (b sb db : Nat) (wv fv : Value) (ops : Nat) : Prop := w.heap[b]? = some (.cells #[.map (some sb), .map (some db), wv, .int .i64 ops, fv, .int .i64 (-1), .bool false] 76 (0, 0))
section
variable {w w' : World} {b sb db ops : Nat} {wv fv : Value} {F : Nat → Prop}
theorem Bk.lt (h : Bk w b sb db wv fv ops) : b < w.heap.size := (Array.getElem?_eq_some_iff.1 h).1
theorem Bk.c0 (h : Bk w b sb db wv fv ops) : w.cell? ⟨b, 0, none⟩ = some (.map (some sb)) := by rw [cell_of_row w _ 0 _ 76 (0, 0) h]; rfl
theorem Bk.c1 (h : Bk w b sb db wv fv ops) : w.cell? ⟨b, 1, none⟩ = some (.map (some db)) := by rw [cell_of_row w _ 1 _ 76 (0, 0) h]; rfl
theorem Bk.c2 (h : Bk w b sb db wv fv ops) : w.cell? ⟨b, 2, none⟩ = some wv := by rw [cell_of_row w _ 2 _ 76 (0, 0) h]; rfl
theorem Bk.c3 (h : Bk w b sb db wv fv ops) : w.cell? ⟨b, 3, none⟩ = some (.int .i64 ops) := by rw [cell_of_row w _ 3 _ 76 (0, 0) h]; rfl
theorem Bk.c4 (h : Bk w b sb db wv fv ops) : w.cell? ⟨b, 4, none⟩ = some fv := by rw [cell_of_row w _ 4 _ 76 (0, 0) h]; rfl
theorem Bk.c5 (h : Bk w b sb db wv fv ops) : w.cell? ⟨b, 5, none⟩ = some (.int .i64 (-1)) := by rw [cell_of_row w _ 5 _ 76 (0, 0) h]; rfl
theorem Bk.c6 (h : Bk w b sb db wv fv ops) : w.cell? ⟨b, 6, none⟩ = some (.bool false) := by rw [cell_of_row w _ 6 _ 76 (0, 0) h]; rfl
theorem Bk.fr (h : Bk w b sb db wv fv ops) (i : Nat) : w.frozen? ⟨b, i, none⟩ = false := frozen_of_row w b i _ 76 h
theorem Bk.mod (h : Bk w b sb db wv fv ops) (hm : Mod F w w') (hn : ¬ F b) : Bk w' b sb db wv fv ops := hm.heap h hn
theorem Bk.s3 (h : Bk w b sb db wv fv ops) (x : Nat) : Bk (w.setCell ⟨b, 3, none⟩ (.int .i64 x)) b sb db wv fv x := by unfold Bk; rw [heap_setCell_same w b 3 _ 76 _ h]; rfl
theorem Bk.s2 (h : Bk w b sb db wv fv ops) (x : Value) : Bk (w.setCell ⟨b, 2, none⟩ x) b sb db x fv ops := by unfold Bk; rw [heap_setCell_same w b 2 _ 76 _ h]; rfl
theorem Bk.s4 (h : Bk w b sb db wv fv ops) (x : Value) : Bk (w.setCell ⟨b, 4, none⟩ x) b sb db wv x ops := by unfold Bk; rw [heap_setCell_same w b 4 _ 76 _ h]; rfl
theorem Bk.s0 (h : Bk w b sb db wv fv ops) (x : Nat) : Bk (w.setCell ⟨b, 0, none⟩ (.map (some x))) b x db wv fv ops := by unfold Bk; rw [heap_setCell_same w b 0 _ 76 _ h]; rfl
theorem Bk.s5 (h : Bk w b sb db wv fv ops) : Bk (w.setCell ⟨b, 5, none⟩ (.int .i64 (-1))) b sb db wv fv ops := by unfold Bk; rw [heap_setCell_same w b 5 _ 76 _ h]; rfl
theorem Bk.s6 (h : Bk w b sb db wv fv ops) : Bk (w.setCell ⟨b, 6, none⟩ (.bool false)) b sb db wv fv ops := by unfold Bk; rw [heap_setCell_same w b 6 _ 76 _ h]; rfl
theorem mod_set (w : World) (b i : Nat) (v : Value) : Mod (fun k => k = b) w (w.setCell ⟨b, i, none⟩ v) := (Mod.refl (fun k => k = b) w).setCell (p := ⟨b, i, none⟩) (.inl rfl) _
end
theorem law3 : Keyed Tryz.prog 3 := int_keyed Tryz.underlying3
theorem zeroB (w : World) : (zeroValue 4).run Tryz.prog w = .ok (.bool false) w := by kernel_rfl
/-- The failures that are planned. -/
def FL (w : World) (fv : Value) (n : Nat) (fl : Int → Bool) : Prop :=
  (fv = .map none ∧ ∀ i, fl i = false) ∨ ∃ fb D, fv = .map (some fb) ∧ w.ownsMap Tryz.prog 3 Rv fb n D ∧ ∀ i, (Lit.int .i64 i).wf = true → D.atKey (.int .i64 i) (.held (.bool false)) = .held (.bool (fl i))
section
variable {w w' : World} {fv : Value} {n : Nat} {fl : Int → Bool} {F : Nat → Prop}
theorem FL.form (h : FL w fv n fl) : ∃ q, fv = .map q := by
  rcases h with ⟨e, _⟩ | ⟨fb, D, e, _⟩
  · exact ⟨_, e⟩
  · exact ⟨_, e⟩
theorem FL.lt (h : FL w fv n fl) : ∀ k, fv = .map (some k) → k < w.heap.size := by
  intro k hk
  rcases h with ⟨e, _⟩ | ⟨fb, D, e, h, _⟩
  · rw [e] at hk; cases hk
  · rw [e] at hk; injection hk with hk; injection hk with hk; subst hk; exact h.lt
theorem FL.mod (h : FL w fv n fl) (hm : Mod F w w') (hn : ∀ k, fv = .map (some k) → ¬ F k) : FL w' fv n fl := by
  rcases h with h | ⟨fb, D, rfl, ⟨es, clock, hb, h1, h3, h4⟩, h2⟩
  · exact .inl h
  · exact .inr ⟨fb, D, rfl, ⟨es, clock, hm.heap hb (hn fb rfl), h1, h3, h4⟩, h2⟩
theorem FL.mono {k : Nat} (h : FL w fv n fl) (hk : n ≤ k) : FL w fv k fl := by
  rcases h with h | ⟨fb, D, rfl, h1, h2⟩
  · exact .inl h
  · exact .inr ⟨fb, D, rfl, h1.mono hk, h2⟩
theorem FL.look (h : FL w fv n fl) (i : Int) (hi : (Lit.int .i64 i).wf = true) : (Instr.lookup 74 fv (.int .i64 i) false).run Tryz.prog w = .ok (.bool (fl i)) w := by
  rcases h with ⟨rfl, h⟩ | ⟨fb, D, rfl, h1, h2⟩
  · have := Maps.look_nil (w := w) false law3 Tryz.underlying74 (zeroB _) (keyOf_int_mk Tryz.underlying3 hi)
    rw [h i]
    simpa using this
  · obtain ⟨v, ps, hr, hv⟩ := h1.lookup law3 Tryz.underlying74 (zeroB w) (zd := .held (.bool false)) (zp := []) rfl (keyOf_int_mk Tryz.underlying3 hi)
    rw [hr]
    have h4 : (DataW.held v : DataW Value) = D.atKey (.int .i64 i) (.held (.bool false)) := congrArg Prod.fst (Option.some.inj hv)
    rw [h2 i hi] at h4
    rw [held_inj h4]
theorem FL.made (w : World) : FL (w.alloc (.map #[] 0)) (.map (some w.heap.size)) 0 (fun _ => false) := .inr ⟨_, .map [], rfl, World.ownsMap_made _ _ _ _, fun _ _ => rfl⟩
theorem FL.store {fb : Nat} (h : FL w (.map (some fb)) n fl) (hn : n < maxLen) (i : Int) (hi : (Lit.int .i64 i).wf = true) :
    ∃ w', (Instr.mapUpdate 74 (.map (some fb)) (.int .i64 i) (.bool true)).run Tryz.prog w = .ok () w' ∧ FL w' (.map (some fb)) (n + 1) (fun t => if t = i then true else fl t) ∧ Mod (fun k => k = fb) w w' := by
  rcases h with ⟨e, _⟩ | ⟨fb2, D, e, h1, h2⟩
  · cases e
  · injection e with e
    injection e with e
    subst e
    have hD := h1.isMap
    obtain ⟨w', hr, h3, h4⟩ := h1.store law3 Tryz.underlying74 hn (keyOf_int_mk Tryz.underlying3 hi) (val := .bool true) (d := .held (.bool true)) (ps := []) rfl
    refine ⟨w', hr, .inr ⟨fb, _, rfl, h3, fun t ht => ?_⟩, turned_mod h4⟩
    by_cases e : t = i
    · subst e
      simp only [if_true]
      exact atKey_put_same hD (show WideAt.IsKeyLit (.int .i64 t) from trivial) _ _
    · simp only [if_neg e]
      have hne : Lit.int .i64 t ≠ Lit.int .i64 i := fun h => e (by injection h)
      rw [atKey_put_other hne]
      exact h2 t ht
end
theorem wf_nat (n : Nat) (h : n < 1000000000) : (Lit.int .i64 (n : Int)).wf = true := by
  have h1 : IntKind.i64.min = -9223372036854775808 := by decide
  have h2 : IntKind.i64.max = 9223372036854775807 := by decide
  simp [Lit.wf, h1, h2]
  omega
theorem call_some (b sb db ops n : Nat) (wv fv : Value) (fl : Int → Bool) (w : World) (hb : Bk w b sb db wv fv ops) (hf : FL w fv n fl) (ho : ops < 1000000000) :
    Calls Tryz.prog 150 #[.pointer (some ⟨b, 0, none⟩)] w fun e w' => e = .returned (.int .i64 (if fl ops then 6 else 0)) ∧ Bk w' b sb db wv fv (ops + 1) ∧ Mod (fun k => k = b) w w' := by
  have hm := mod_set w b 3 (.int .i64 ((ops + 1 : Nat) : Int))
  have hs := hb.s3 (ops + 1)
  have hne : ∀ k, fv = .map (some k) → ¬ k = b := by
    rintro k rfl rfl
    rcases hf with ⟨e, _⟩ | ⟨fb, D, e, ⟨es, clock, h1, _⟩, _⟩
    · cases e
    · injection e with e
      injection e with e
      subst e
      rw [hb] at h1
      cases h1
  have hf2 := (hf.mod hm hne).look ops (wf_nat ops ho)
  obtain ⟨q, rfl⟩ := hf.form
  have k3 := hb.c3
  have k6 := hb.c6
  have kf := hb.fr 3
  have j4 := hs.c4
  have j5 := hs.c5
  have j6 := hs.c6
  have hE := hide (And.intro hs hm)
  have e1 : ((ops + 1 : Nat) : Int) = (ops : Int) + 1 := by omega
  rw [e1] at hf2 j4 j5 j6 hE
  have hlt := hb.lt
  replace hb := hide hb
  clear hf hs hm
  have hd : ¬ ((ops : Int) = -1) := by omega
  by_cases hfl : fl ops = true
  · rw [hfl] at hf2 ⊢
    go_enter Tryz.func150, Tryz.ntmps150
    go_wp
    go_ret
    exact ⟨rfl, hE.out⟩
  · have hfl : fl ops = false := by simpa using hfl
    rw [hfl] at hf2 ⊢
    go_enter Tryz.func150, Tryz.ntmps150
    go_wp
    go_ret
    exact ⟨rfl, hE.out⟩
end Go.Proofs.YtjkpelbhhapebaaGreatDoor.W
