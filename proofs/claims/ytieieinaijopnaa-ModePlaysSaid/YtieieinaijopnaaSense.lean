/-
  Words for the walk of (*mode.Pages).Sense. Condition: pages in a block of their own.
-/
import Derived.Test.YtieieinaijopnaaMode
namespace Go.Proofs.Ytieieinaijopnaa
open Go.RowKit

section
variable {P : Program} {ops : Array Oper} {rest : List Oper} {o : Oper} {a : Act} {w : World} {Q : Exit → Act → World → Prop}
/-- A struct stored whole into a block of its own: the world behind it is a letter. -/
theorem store_row (ty : TypeId) (x y : Operand) (g : Nat) (cells : Array Value) (t : TypeId) (old : Array Value) (ho : o.op = .store ty x y) (hgd : o.guard = none) (hd : o.dst = none)
    (hx : a.eval x = .pointer (some ⟨g, 0, none⟩)) (hy : a.eval y = .agg cells) (hi : (P.info? ty).map (·.size) = some cells.size)
    (hold : old.size = cells.size) (h1 : cells.all (·.oneCell') = true) (hg : w.heap[g]? = some (.cells old t (0, 0)))
    (h : ∀ w', w'.heap[g]? = some (.cells cells t (0, 0)) → Mod (fun k => k = g) w w' → wpList P ops Q rest a w') : wpList P ops Q (o :: rest) a w := by
  refine wpList_store_row hgd ty x y ho g cells hx hy t old hg hi hold h1 ?_
  rw [hd]
  exact h _ (setRow_heap w g old cells t (0, 0) hg) ⟨rfl, rfl, rfl, by simp, fun k _ hk => setRow_other w g k cells hk⟩
end

/-- A command. -/
structure C where
  kind : Int
  long : Bool
  lba : Int
  blocks : Int
  alloc : Int
  fua : Bool
  prot : Int
  unmap : Bool
  evpd : Bool
  page : Int
  control : Int
  save : Bool
  service : Int
  type : Int
  bytes : Bool
/-- Its cells. -/
abbrev cc (c : C) : Array Value := #[.int .u8 c.kind, .bool c.long, .int .u64 c.lba, .int .u64 c.blocks, .int .i64 c.alloc, .bool c.fua, .int .u8 c.prot, .bool c.unmap, .bool c.evpd, .int .u8 c.page, .int .u8 c.control, .bool c.save, .int .u8 c.service, .int .u8 c.type, .bool c.bytes]
abbrev cv (c : C) : Value := .agg (cc c)
abbrev z8 : Array Value := #[.int .u8 0, .int .u16 0, .int .u64 0, .bool false, .int .i64 0, .int .i64 0, .bool false, .bool false]

/-- Which values are told. -/
def vOf (ctl : Int) (n s : V) : V := if ctl = 1 then ⟨true, true, true⟩ else if ctl = 2 then ⟨true, false, false⟩ else if ctl = 3 then s else n
/-- The pages that are told. -/
def bodyL (page : Int) (v : V) : List Int := (if page = 8 ∨ page = 63 then cachL v else []) ++ (if page = 10 ∨ page = 63 then ctlL v else [])
def headL (long : Bool) (dev : Int) (m : Nat) : List Int := if long then [0, 6 + m, 0, dev, 0, 0, 0, 0] else [3 + m, 0, dev, 0]
def devB (n : V) : Int := if n.c then 144 else 16
def senseL (c : C) (n s : V) : List Int := headL c.long (devB n) (bodyL c.page (vOf c.control n s)).length ++ bodyL c.page (vOf c.control n s)

theorem elem5 : Elem Try.prog 5 (.int .u8 0) 1 1 := ⟨by kernel_rfl, rfl, by decide⟩
theorem size23 : (Try.prog.info? 23).map (·.size) = some 3 := by kernel_rfl
theorem size31 : (Try.prog.info? 31).map (·.size) = some 8 := by kernel_rfl

/-- What is known of the blocks while Sense runs: the command's, the result's, the pages'. -/
def Env (W : World) (cb hb : Nat) (c : C) (p : Nat) (n s : V) : Prop := W.heap[cb]? = some (.cells (cc c) 36 (0, 0)) ∧ W.heap[hb]? = some (.cells z8 31 (0, 0)) ∧ PG W p n s
theorem Env.mod {W W' : World} {cb hb p : Nat} {c : C} {n s : V} {F : Nat → Prop} (h : Env W cb hb c p n s) (hm : Mod F W W') (h1 : ¬ F cb) (h2 : ¬ F hb) (h3 : ¬ F p) : Env W' cb hb c p n s :=
  ⟨hm.heap h.1 h1, hm.heap h.2.1 h2, h.2.2.mod hm h3⟩
theorem Env.q {W W' : World} {cb hb p : Nat} {c : C} {n s : V} (h : Env W cb hb c p n s) (hm : Mod (fun _ => False) W W') : Env W' cb hb c p n s := h.mod hm (by simp) (by simp) (by simp)
theorem Env.cells {W : World} {cb hb p : Nat} {c : C} {n s : V} (h : Env W cb hb c p n s) : W.cell? ⟨cb, 1, none⟩ = some (.bool c.long) ∧ W.cell? ⟨cb, 9, none⟩ = some (.int .u8 c.page) ∧ W.cell? ⟨cb, 10, none⟩ = some (.int .u8 c.control) := by
  refine ⟨?_, ?_, ?_⟩ <;> rw [cell_of_row W cb _ _ 36 (0, 0) h.1] <;> rfl
theorem Env.pg {W : World} {cb hb p : Nat} {c : C} {n s : V} (h : Env W cb hb c p n s) : PG W p n s := h.2.2
theorem vals {W : World} {b : Nat} {v : V} (h : W.heap[b]? = some (.cells #[.bool v.a, .bool v.b, .bool v.c] 23 (0, 0))) : W.cell? ⟨b, 0, none⟩ = some (.bool v.a) ∧ W.cell? ⟨b, 1, none⟩ = some (.bool v.b) ∧ W.cell? ⟨b, 2, none⟩ = some (.bool v.c) := by
  refine ⟨?_, ?_, ?_⟩ <;> rw [cell_of_row W b _ _ 23 (0, 0) h] <;> rfl
theorem eights {W : World} {b : Nat} {x0 x1 x2 x3 x4 x5 x6 x7 : Value} (h : W.heap[b]? = some (.cells #[x0, x1, x2, x3, x4, x5, x6, x7] 31 (0, 0))) : W.cell? ⟨b, 0, none⟩ = some x0 ∧ W.cell? ⟨b, 1, none⟩ = some x1 ∧ W.cell? ⟨b, 2, none⟩ = some x2 ∧
    W.cell? ⟨b, 3, none⟩ = some x3 ∧ W.cell? ⟨b, 4, none⟩ = some x4 ∧ W.cell? ⟨b, 5, none⟩ = some x5 ∧ W.cell? ⟨b, 6, none⟩ = some x6 ∧ W.cell? ⟨b, 7, none⟩ = some x7 := by
  refine ⟨?_, ?_, ?_, ?_, ?_, ?_, ?_, ?_⟩ <;> rw [cell_of_row W b _ _ 31 (0, 0) h] <;> rfl
/-- Eight cells laid one by one. -/
theorem set8 {w : World} {g : Nat} {o0 o1 o2 o3 o4 o5 o6 o7 : Value} (h : w.heap[g]? = some (.cells #[o0, o1, o2, o3, o4, o5, o6, o7] 31 (0, 0))) (v0 v1 v2 v3 v4 v5 v6 v7 : Value) :
    ((((((((w.setCell ⟨g, 0, none⟩ v0).setCell ⟨g, 1, none⟩ v1).setCell ⟨g, 2, none⟩ v2).setCell ⟨g, 3, none⟩ v3).setCell ⟨g, 4, none⟩ v4).setCell ⟨g, 5, none⟩ v5).setCell ⟨g, 6, none⟩ v6).setCell ⟨g, 7, none⟩ v7).heap[g]? = some (.cells #[v0, v1, v2, v3, v4, v5, v6, v7] 31 (0, 0)) ∧ Mod (fun k => k = g) w ((((((((w.setCell ⟨g, 0, none⟩ v0).setCell ⟨g, 1, none⟩ v1).setCell ⟨g, 2, none⟩ v2).setCell ⟨g, 3, none⟩ v3).setCell ⟨g, 4, none⟩ v4).setCell ⟨g, 5, none⟩ v5).setCell ⟨g, 6, none⟩ v6).setCell ⟨g, 7, none⟩ v7) := by
  refine ⟨?_, ?_⟩
  · have h0 := heap_setCell_same w g 0 _ 31 v0 h
    have h1 := heap_setCell_same _ g 1 _ 31 v1 h0
    have h2 := heap_setCell_same _ g 2 _ 31 v2 h1
    have h3 := heap_setCell_same _ g 3 _ 31 v3 h2
    have h4 := heap_setCell_same _ g 4 _ 31 v4 h3
    have h5 := heap_setCell_same _ g 5 _ 31 v5 h4
    have h6 := heap_setCell_same _ g 6 _ 31 v6 h5
    have h7 := heap_setCell_same _ g 7 _ 31 v7 h6
    rw [h7]
    simp
  · refine Mod.setCell (F := fun k => k = g) (p := ⟨g, 7, none⟩) ?_ (.inl rfl) v7
    refine Mod.setCell (F := fun k => k = g) (p := ⟨g, 6, none⟩) ?_ (.inl rfl) v6
    refine Mod.setCell (F := fun k => k = g) (p := ⟨g, 5, none⟩) ?_ (.inl rfl) v5
    refine Mod.setCell (F := fun k => k = g) (p := ⟨g, 4, none⟩) ?_ (.inl rfl) v4
    refine Mod.setCell (F := fun k => k = g) (p := ⟨g, 3, none⟩) ?_ (.inl rfl) v3
    refine Mod.setCell (F := fun k => k = g) (p := ⟨g, 2, none⟩) ?_ (.inl rfl) v2
    refine Mod.setCell (F := fun k => k = g) (p := ⟨g, 1, none⟩) ?_ (.inl rfl) v1
    refine Mod.setCell (F := fun k => k = g) (p := ⟨g, 0, none⟩) ?_ (.inl rfl) v0
    exact Mod.refl _ _
/-- What Sense hands back where all goes well. -/
def Told (c : C) (n s : V) (w : World) (e : Ending) (w' : World) : Prop := ∃ g cap, e = .returned (.tuple #[.slice (some ⟨g, 0, none⟩) (senseL c n s).length cap, .agg z8, .bool true]) ∧
  Row w' 5 1 (ic .u8) (.slice (some ⟨g, 0, none⟩) (senseL c n s).length cap) (senseL c n s) ∧ Mod (fun _ => False) w w' ∧ w.heap.size ≤ g
theorem none_mod {w w' : World} (h : w.grownBy w' (Value.slice none 0 0).ownBlock) : Mod (fun _ => False) w w' := (grown_mod h).mono fun k _ e => by simp [Value.ownBlock] at e
theorem own_new {v v' : Value} {w : World} {b g n c : Nat} (h : v'.ownBlock = v.ownBlock ∨ v'.ownBlock = some w.heap.size) (hv : v' = .slice (some ⟨g, 0, none⟩) n c) (h1 : ∀ k, v.ownBlock = some k → b ≤ k) (hb : b ≤ w.heap.size) : b ≤ g := by
  subst hv
  have e : (Value.slice (some ⟨g, 0, none⟩) n c).ownBlock = some g := rfl
  rw [e] at h
  rcases h with h | h
  · exact h1 g h.symm
  · obtain rfl := Option.some.inj h; exact hb

end Go.Proofs.Ytieieinaijopnaa
