/-
  The document's set of tasks: its words, and the walks of New, Find and May. Conditions: a set whose block and row lie in memory of its own.
-/
import Derived.Test.YtabkplmpkdbchaaLaw
namespace Go.Proofs.Ytabkplmpkdbchaa
open Go.RowKit

/-- A task's cells in the document's set. -/
def encR (t : T) : List Value := [.int .i64 t.nx, .int .u32 t.tag, .int .i64 t.at_, .bool t.st]
theorem encR_len : ∀ t, (encR t).length = 4 := fun _ => rfl
theorem encR_one : ∀ t, ∀ u ∈ encR t, u.oneCell' = true := by
  intro t u hu
  simp only [encR, List.mem_cons, List.not_mem_nil, or_false] at hu
  rcases hu with rfl | rfl | rfl | rfl <;> rfl
theorem elem67 : Elem Try.prog 67 (.agg #[.int .i64 0, .int .u32 0, .int .i64 0, .bool false]) 4 32 := ⟨by kernel_rfl, rfl, by decide⟩
/-- The set at block b: its tasks l, for whom an allegiance stands; all of it lies in F. -/
def RS (w : World) (b : Nat) (l : List T) (aca : Int) (F : Nat → Prop) : Prop :=
  ∃ v, w.heap[b]? = some (.cells #[v, .int .i64 aca] 55 (0, 0)) ∧ F b ∧ Row w 67 4 encR v l ∧ ∀ k, v.ownBlock = some k → F k

theorem RS.mono {w : World} {b : Nat} {l : List T} {aca : Int} {F G : Nat → Prop} (h : RS w b l aca F) (hG : ∀ k, F k → G k) : RS w b l aca G := by
  obtain ⟨v, h1, h2, h3, h4⟩ := h
  exact ⟨v, h1, hG _ h2, h3, fun k hk => hG k (h4 k hk)⟩
theorem RS.mod {w w' : World} {b : Nat} {l : List T} {aca : Int} {F G : Nat → Prop} (h : RS w b l aca F) (hm : Mod G w w') (hd : ∀ k, F k → ¬ G k) : RS w' b l aca F := by
  obtain ⟨v, h1, h2, h3, h4⟩ := h
  exact ⟨v, hm.heap h1 (hd _ h2), h2, h3.mod hm fun k hk => hd k (h4 k hk), h4⟩
theorem RS.lt {w : World} {b : Nat} {l : List T} {aca : Int} {F : Nat → Prop} (h : RS w b l aca F) : b < w.heap.size := by
  obtain ⟨v, h1, _⟩ := h
  exact (Array.getElem?_eq_some_iff.1 h1).1
/-- What is read of a set. -/
theorem RS.at_ {w : World} {b : Nat} {l : List T} {aca : Int} {F : Nat → Prop} (h : RS w b l aca F) :
    ∃ A cap, w.cell? ⟨b, 0, none⟩ = some (.slice A l.length cap) ∧ w.cell? ⟨b, 1, none⟩ = some (.int .i64 aca) ∧ w.frozen? ⟨b, 0, none⟩ = false ∧ w.frozen? ⟨b, 1, none⟩ = false ∧
      Rd w 4 encR A l.length l ∧ Row w 67 4 encR (.slice A l.length cap) l ∧ (∀ k, (Value.slice A l.length cap).ownBlock = some k → F k ∧ k ≠ b) ∧ F b := by
  obtain ⟨v, h1, h2, h3, h4⟩ := h
  obtain ⟨A, cap, rfl, _, _⟩ := h3.slice
  refine ⟨A, cap, ?_, ?_, ?_, ?_, h3.rd encR_len rfl, h3, fun k hk => ⟨h4 k hk, fun e => h3.ne h1 (by decide) (e ▸ hk)⟩, h2⟩
  · rw [cell_of_row w b _ _ 55 (0, 0) h1]; rfl
  · rw [cell_of_row w b _ _ 55 (0, 0) h1]; rfl
  · simp [World.frozen?, h1]
  · simp [World.frozen?, h1]

theorem size67 : (Try.prog.info? 67).map (·.size) = some 4 := by kernel_rfl
/-- The four cells of one element. -/
theorem Rd.relem {w : World} {A : Option Addr} {n : Nat} {l : List T} (h : Rd w 4 encR A n l) (i : Nat) (hi : i < n) : ∃ ad, A = some ad ∧ ∀ j u, (encR (gi l i))[j]? = some u → w.cell? ((ad.add (i * 4)).add j) = some u := by
  obtain ⟨ad, e, hc⟩ := h.2 i hi
  exact ⟨ad, e, fun j u hu => by rw [addr_add]; exact hc j u hu⟩
theorem RS.plus {w w' : World} {b : Nat} {l : List T} {aca : Int} {F : Nat → Prop} (h : RS w b l aca F) (hm : Mod (fun _ => False) w w') : RS w' b l aca (Plus F w w') ∧ Mod F w w' :=
  ⟨(h.mod hm (by simp)).mono fun _ hk => .inl hk, hm.mono (by simp)⟩

/-- The new task in its box, not started, whatever else was made. -/
theorem rboxed {w w1 : World} {nx tag at_ : Int} {st : Bool} (m1 : Mod (fun _ => False) (w.alloc (.cells #[.int .i64 nx, .int .u32 tag, .int .i64 at_, .bool st] 67)) w1)
    (hb : (w.alloc (.cells #[.int .i64 nx, .int .u32 tag, .int .i64 at_, .bool st] 67)).heap[w.heap.size]? = some (.cells #[.int .i64 nx, .int .u32 tag, .int .i64 at_, .bool st] 67)) (n : Nat) :
    Mod (fun _ => False) w ((w1.drewN n).setCell ⟨w.heap.size, 3, none⟩ (.bool false)) ∧
      ((w1.drewN n).setCell ⟨w.heap.size, 3, none⟩ (.bool false)).heap[w.heap.size]? = some (.cells #[.int .i64 nx, .int .u32 tag, .int .i64 at_, .bool false] 67) := by
  have h1 := m1.heap hb (by simp)
  refine ⟨(((((Mod.refl _ w).alloc _).trans m1 (by simp)).drewN n).setCell (p := ⟨w.heap.size, 3, none⟩) (.inr (Nat.le_refl _)) _), ?_⟩
  simp [World.setCell, Array.getElem?_modify, h1]
theorem rboxed_facts {w W : World} {b B cap : Nat} {A : Option Addr} {l : List T} {nx tag at_ : Int} (k2 : Mod (fun _ => False) w W) (k3 : W.heap[B]? = some (.cells #[.int .i64 nx, .int .u32 tag, .int .i64 at_, .bool false] 67))
    (hc : w.cell? ⟨b, 0, none⟩ = some (.slice A l.length cap)) (hz : w.frozen? ⟨b, 0, none⟩ = false) (hb : b < w.heap.size) (hr : Row w 67 4 encR (.slice A l.length cap) l) :
    W.cell? ⟨B, 0, none⟩ = some (.int .i64 nx) ∧ W.cell? ⟨B, 1, none⟩ = some (.int .u32 tag) ∧ W.cell? ⟨B, 2, none⟩ = some (.int .i64 at_) ∧ W.cell? ⟨B, 3, none⟩ = some (.bool false) ∧
    W.cell? ⟨b, 0, none⟩ = some (.slice A l.length cap) ∧ W.frozen? ⟨b, 0, none⟩ = false ∧
    (W.alloc (.cells #[.int .i64 nx, .int .u32 tag, .int .i64 at_, .bool false] 67)).cell? ⟨b, 0, none⟩ = some (.slice A l.length cap) ∧
    B < W.heap.size ∧ b < W.heap.size ∧
    (Row (W.alloc (.cells #[.int .i64 nx, .int .u32 tag, .int .i64 at_, .bool false] 67)).drew 67 4 encR (.slice A l.length cap) l ∧
      Rd (W.alloc (.cells #[.int .i64 nx, .int .u32 tag, .int .i64 at_, .bool false] 67)).drew 4 encR (some ⟨W.heap.size, 0, none⟩) 1 [{ nx := nx, tag := tag, at_ := at_, st := false }]) := by
  have hcW := k2.cell hc (by simp)
  have hbW : b < W.heap.size := Nat.lt_of_lt_of_le hb k2.size
  refine ⟨?_, ?_, ?_, ?_, hcW, (k2.frozen (p := ⟨b, 0, none⟩) hb (by simp)).trans hz, ?_, (Array.getElem?_eq_some_iff.1 k3).1, hbW, (hr.mod k2 (by simp)).alloc _, Rd.box W encR { nx := nx, tag := tag, at_ := at_, st := false } 67⟩
  · rw [cell_of_row W B _ _ 67 (0, 0) k3]; rfl
  · rw [cell_of_row W B _ _ 67 (0, 0) k3]; rfl
  · rw [cell_of_row W B _ _ 67 (0, 0) k3]; rfl
  · rw [cell_of_row W B _ _ 67 (0, 0) k3]; rfl
  · rw [World.cell?_alloc_lt _ _ _ hbW]; exact hcW
/-- The row, written or made anew, is laid into the set. -/
theorem rentered {w w2 : World} {b cap : Nat} {A : Option Addr} {l l2 : List T} {aca : Int} {F : Nat → Prop} {v : Value} (hs : RS w b l aca F) (hg : Mod (fun k => (Value.slice A l.length cap).ownBlock = some k) w w2)
    (hc : w.cell? ⟨b, 0, none⟩ = some (.slice A l.length cap)) (h2 : Row w2 67 4 encR v l2) (hv : ∀ k, v.ownBlock = some k → (Value.slice A l.length cap).ownBlock = some k ∨ w.heap.size ≤ k) :
    RS (w2.setCell ⟨b, 0, none⟩ v) b l2 aca (Plus F w (w2.setCell ⟨b, 0, none⟩ v)) ∧ Mod F w (w2.setCell ⟨b, 0, none⟩ v) := by
  obtain ⟨u, h1, h3, h4, h5⟩ := hs
  have hu : u = .slice A l.length cap := by
    rw [cell_of_row w b _ _ 55 (0, 0) h1] at hc
    exact Option.some.inj hc
  subst hu
  have hb2 : w2.heap[b]? = some (.cells #[.slice A l.length cap, .int .i64 aca] 55) := hg.heap h1 fun e => h4.ne h1 (by decide) e
  have hsz : (w2.setCell ⟨b, 0, none⟩ v).heap.size = w2.heap.size := by simp
  refine ⟨⟨v, by simp [World.setCell, Array.getElem?_modify, hb2], .inl h3, h2.mod ((Mod.refl (fun k => k = b) w2).setCell (p := ⟨b, 0, none⟩) (.inl rfl) v) fun k hk e => h2.ne hb2 (by decide) (e ▸ hk), fun k hk => ?_⟩, (hg.mono fun k _ hk => h5 k hk).setCell (.inl h3) v⟩
  rcases hv k hk with h | h
  · exact .inl (h5 k h)
  · exact .inr ⟨h, by rw [hsz]; exact h2.lt k hk⟩

/-- What stands at the head of a round of drop. -/
def RDR (p : T → Bool) (w W : World) (l : List T) (k : Nat) (u v : Value) : Prop :=
  Row W 67 4 encR u ((l.take k).filter p) ∧ Row W 67 4 encR v ((l.take k).filter fun t => !p t) ∧ Mod (fun _ => False) w W ∧ (∀ j, u.ownBlock = some j → w.heap.size ≤ j) ∧ (∀ j, v.ownBlock = some j → w.heap.size ≤ j) ∧
    ∀ j, u.ownBlock = some j → v.ownBlock ≠ some j
theorem RDR.out_ {p : T → Bool} {w W W1 w2 : World} {l : List T} {k : Nat} {u v u2 : Value} {o : Obj} (h : RDR p w W l k u v) (hm : Mod (fun _ => False) W W1) (hk : k < l.length) (hp : p (gi l k) = true)
    (h2 : Row w2 67 4 encR u2 ((l.take k).filter p ++ [gi l k])) (g2 : (W1.alloc o).grownBy w2 u.ownBlock) (a2 : u2.ownBlock = u.ownBlock ∨ u2.ownBlock = some (W1.alloc o).heap.size) : RDR p w w2 l (k + 1) u2 v := by
  obtain ⟨r1, r2, r3, r4, r5, r6⟩ := h
  have hv : Row (W1.alloc o) 67 4 encR v ((l.take k).filter fun t => !p t) := (r2.mod hm (by simp)).alloc _
  refine ⟨by rw [filter_yes p l k hk hp]; exact h2, ?_, ((r3.trans hm (by simp)).alloc o).grown g2 fun j hj => .inr (r4 j hj), fun j hj => ?_, r5, fun j hj hvj => ?_⟩
  · rw [filter_no _ l k hk (by simp [hp])]
    exact hv.mod (grown_mod g2) fun j hj e => r6 j e hj
  · rcases a2 with e | e <;> rw [e] at hj
    · exact r4 j hj
    · have := r3.size; have := hm.size; simp at hj; omega
  · rcases a2 with e | e <;> rw [e] at hj
    · exact r6 j hj hvj
    · have := r2.lt j hvj; have := hm.size; simp at hj; omega
theorem RDR.left_ {p : T → Bool} {w W W1 w2 : World} {l : List T} {k : Nat} {u v v2 : Value} {o : Obj} (h : RDR p w W l k u v) (hm : Mod (fun _ => False) W W1) (hk : k < l.length) (hp : p (gi l k) = false)
    (h2 : Row w2 67 4 encR v2 (((l.take k).filter fun t => !p t) ++ [gi l k])) (g2 : (W1.alloc o).grownBy w2 v.ownBlock) (a2 : v2.ownBlock = v.ownBlock ∨ v2.ownBlock = some (W1.alloc o).heap.size) : RDR p w w2 l (k + 1) u v2 := by
  obtain ⟨r1, r2, r3, r4, r5, r6⟩ := h
  have hu : Row (W1.alloc o) 67 4 encR u ((l.take k).filter p) := (r1.mod hm (by simp)).alloc _
  refine ⟨?_, by rw [filter_yes _ l k hk (by simp [hp])]; exact h2, ((r3.trans hm (by simp)).alloc o).grown g2 fun j hj => .inr (r5 j hj), r4, fun j hj => ?_, fun j hj hvj => ?_⟩
  · rw [filter_no _ l k hk hp]
    exact hu.mod (grown_mod g2) fun j hj e => r6 j hj e
  · rcases a2 with e | e <;> rw [e] at hj
    · exact r5 j hj
    · have := r3.size; have := hm.size; simp at hj; omega
  · rcases a2 with e | e <;> rw [e] at hvj
    · exact r6 j hj hvj
    · have := r1.lt j hj; have := hm.size; simp at hvj; omega
/-- What stays is laid into the set. -/
theorem RDR.done {p : T → Bool} {w W : World} {l : List T} {u v : Value} {b : Nat} {aca : Int} {F : Nat → Prop} (h : RDR p w W l l.length u v) (hs : RS w b l aca F) :
    Row (W.setCell ⟨b, 0, none⟩ v) 67 4 encR u (l.filter p) ∧ RS (W.setCell ⟨b, 0, none⟩ v) b (l.filter fun t => !p t) aca (PlusBut F w (W.setCell ⟨b, 0, none⟩ v) u) ∧ Mod F w (W.setCell ⟨b, 0, none⟩ v) ∧
      ∀ j, u.ownBlock = some j → w.heap.size ≤ j := by
  obtain ⟨r1, r2, r3, r4, r5, r6⟩ := h
  rw [List.take_of_length_le (Nat.le_refl _)] at r1 r2
  obtain ⟨x, h1, h2, h3, h4⟩ := hs
  have hbW := r3.heap h1 (by simp)
  have hset : Mod (fun k => k = b) W (W.setCell ⟨b, 0, none⟩ v) := (Mod.refl (fun k => k = b) W).setCell (p := ⟨b, 0, none⟩) (.inl rfl) v
  have hsz : (W.setCell ⟨b, 0, none⟩ v).heap.size = W.heap.size := by simp
  refine ⟨r1.mod hset fun k hk e => r1.ne hbW (by decide) (e ▸ hk), ⟨v, by simp [World.setCell, Array.getElem?_modify, hbW], .inl h2, r2.mod hset fun k hk e => r2.ne hbW (by decide) (e ▸ hk), fun k hk => .inr ⟨r5 k hk, by rw [hsz]; exact r2.lt k hk, fun e => r6 k e hk⟩⟩, (r3.mono (by simp)).setCell (.inl h2) v, r4⟩

theorem RS.setAca {w : World} {b : Nat} {l : List T} {aca : Int} {F : Nat → Prop} (h : RS w b l aca F) (x : Int) : RS (w.setCell ⟨b, 1, none⟩ (.int .i64 x)) b l x F ∧ Mod F w (w.setCell ⟨b, 1, none⟩ (.int .i64 x)) := by
  obtain ⟨v, h1, h2, h3, h4⟩ := h
  have hset : Mod (fun k => k = b) w (w.setCell ⟨b, 1, none⟩ (.int .i64 x)) := (Mod.refl (fun k => k = b) w).setCell (p := ⟨b, 1, none⟩) (.inl rfl) _
  exact ⟨⟨v, by simp [World.setCell, Array.getElem?_modify, h1], h2, h3.mod hset fun k hk e => h3.ne h1 (by decide) (e ▸ hk), h4⟩, (Mod.refl F w).setCell (p := ⟨b, 1, none⟩) (.inl h2) _⟩

theorem flat_rst (l : List T) : ∀ (i : Nat) (x : Bool), i < l.length → (l.flatMap encR).set (i * 4 + 3) (.bool x) = (l.set i { gi l i with st := x }).flatMap encR := by
  induction l with
  | nil => intro i x hi; simp at hi
  | cons a l ih =>
    intro i x hi
    cases i with
    | zero => simp [List.flatMap_cons, encR, gi]
    | succ i =>
      have h := ih i x (by simpa using hi)
      have e : (i + 1) * 4 + 3 = (i * 4 + 3) + 4 := by omega
      rw [e]
      simp only [List.flatMap_cons, List.set_cons_succ, encR, List.cons_append, List.nil_append]
      rw [h]
      simp [gi]
theorem Row.rst {w : World} {g n c : Nat} {l : List T} (h : Row w 67 4 encR (.slice (some ⟨g, 0, none⟩) n c) l) (i : Nat) (hi : i < l.length) (x : Bool) :
    Row (w.setCell ⟨g, i * 4 + 3, none⟩ (.bool x)) 67 4 encR (.slice (some ⟨g, 0, none⟩) n c) (l.set i { gi l i with st := x }) := by
  have hn : l.length = n := (h.rd encR_len rfl).1
  subst hn
  have hs := World.ownsRow.stored (w := w) h (i * 4 + 3) (.bool x)
  rw [flat_rst l i x hi] at hs
  unfold Row
  rw [List.length_set]
  exact hs.1
/-- One task is marked. -/
theorem RS.mark {w : World} {b g n c : Nat} {l : List T} {aca : Int} {F : Nat → Prop} (h : RS w b l aca F) (hc : w.cell? ⟨b, 0, none⟩ = some (.slice (some ⟨g, 0, none⟩) n c)) (i : Nat) (hi : i < l.length) (x : Bool) :
    RS (w.setCell ⟨g, i * 4 + 3, none⟩ (.bool x)) b (l.set i { gi l i with st := x }) aca F ∧ Mod F w (w.setCell ⟨g, i * 4 + 3, none⟩ (.bool x)) := by
  obtain ⟨v, h1, h2, h3, h4⟩ := h
  have hv : v = .slice (some ⟨g, 0, none⟩) n c := by
    rw [cell_of_row w b _ _ 55 (0, 0) h1] at hc
    exact Option.some.inj hc
  subst hv
  have hgb : g ≠ b := fun e => h3.ne h1 (by decide) (by rw [← e]; rfl)
  have hset : Mod (fun k => k = g) w (w.setCell ⟨g, i * 4 + 3, none⟩ (.bool x)) := (Mod.refl (fun k => k = g) w).setCell (p := ⟨g, i * 4 + 3, none⟩) (.inl rfl) _
  exact ⟨⟨_, hset.heap h1 (fun e => hgb e.symm), h2, h3.rst i hi x, h4⟩, (Mod.refl F w).setCell (p := ⟨g, i * 4 + 3, none⟩) (.inl (h4 g rfl)) _⟩

theorem rmark_facts {w W : World} {b g n c : Nat} {l : List T} (hm : Mod (fun _ => False) w W) (hc : w.cell? ⟨b, 0, none⟩ = some (.slice (some ⟨g, 0, none⟩) n c)) (h : Row w 67 4 encR (.slice (some ⟨g, 0, none⟩) n c) l) (k : Nat) (hk : k < l.length) :
    W.cell? ⟨b, 0, none⟩ = some (.slice (some ⟨g, 0, none⟩) n c) ∧ W.cell? ⟨g, k * 4 + 3, none⟩ = some (.bool (gi l k).st) ∧ W.frozen? ⟨g, k * 4 + 3, none⟩ = false := by
  have h4 := h.mod hm (by simp)
  have hn : l.length = n := (h.rd encR_len rfl).1
  subst hn
  obtain ⟨ad, e, hst⟩ := (h4.rd encR_len rfl).relem k hk
  obtain rfl := Option.some.inj e
  have h3 := hst 3 _ rfl
  have ea : ((⟨g, 0, none⟩ : Addr).add (k * 4)).add 3 = ⟨g, k * 4 + 3, none⟩ := by rw [addr_add]; simp [Addr.add]
  rw [ea] at h3
  exact ⟨hm.cell hc (by simp), h3, World.ownsRow.frozenAt (w := W) h4 (k * 4 + 3)⟩


set_option maxHeartbeats 400000 in
theorem rnew_any (w : World) :
    Calls Try.prog 22 #[] w fun e w' => e = .returned (.pointer (some ⟨w.heap.size, 0, none⟩)) ∧ RS w' w.heap.size [] (-1) (Plus (fun _ => False) w w') ∧ Mod (fun _ => False) w w' := by
  go_enter Try.func22, Try.ntmps22
  go_wp2
  go_ret
  exact ⟨rfl, ⟨.slice none 0 0, heap_alloc_new w _, .inr ⟨Nat.le_refl _, by simp⟩, Row.nil _ _ _ _, by simp [Value.ownBlock]⟩, (Mod.refl _ w).alloc _⟩
end Go.Proofs.Ytabkplmpkdbchaa
