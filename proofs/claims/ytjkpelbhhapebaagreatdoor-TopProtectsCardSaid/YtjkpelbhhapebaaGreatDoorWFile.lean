/-
  Files as lists of bytes, laid over maps; copy into a row of the call's own. Plain lemmas; conditions as stated.
-/
import Derived.Test.YtjkpelbhhapebaaGreatDoorWFm
import Derived.Laws.CopyOwn
import Derived.Laws.Tables
namespace Go.Proofs.YtjkpelbhhapebaaGreatDoor.W
open Go.RowKit Go.Maps
set_option maxRecDepth 100000
theorem elem5 : Elem Tryz.prog 5 (.int .u8 0) 1 1 := ⟨by kernel_rfl, rfl, by decide⟩
theorem mod_setRow {F : Nat → Prop} {a w : World} (h : Mod F a w) {g : Nat} (hg : F g ∨ a.heap.size ≤ g) (cs : Array Value) : Mod F a (w.setRow g cs) :=
  ⟨h.os, h.tape, h.output, by simpa using h.size, fun i hi hn => (setRow_other w g i cs (by
    rintro rfl
    rcases hg with hg | hg
    · exact hn hg
    · omega)).trans (h.block i hi hn)⟩
/-- The value reads as these bytes; what is read lies in F. -/
def Rb (w : World) (v : Value) (l : List Int) (F : Nat → Prop) : Prop := ∃ A c, v = .slice A l.length c ∧ l.length ≤ c ∧ c ≤ maxLen ∧ Rd w 1 (ic .u8) A l.length l ∧ ∀ ad, A = some ad → 0 < l.length → F ad.block
theorem Rb.mod {w w' : World} {v : Value} {l : List Int} {F G : Nat → Prop} (h : Rb w v l F) (hm : Mod G w w') (hd : ∀ k, F k → ¬ G k) : Rb w' v l F := by
  obtain ⟨A, c, e, h1, h2, h3, h4⟩ := h
  refine ⟨A, c, e, h1, h2, ?_, h4⟩
  by_cases h0 : 0 < l.length
  · exact h3.mod hm fun ad ea => hd _ (h4 ad ea h0)
  · have hl : l = [] := List.eq_nil_of_length_eq_zero (by omega)
    subst hl
    exact Rd.none_ _ _ _ _
theorem Rb.mono {w : World} {v : Value} {l : List Int} {F G : Nat → Prop} (h : Rb w v l F) (hG : ∀ k, F k → G k) : Rb w v l G := by
  obtain ⟨A, c, e, h1, h2, h3, h4⟩ := h
  exact ⟨A, c, e, h1, h2, h3, fun ad ea h0 => hG _ (h4 ad ea h0)⟩
theorem Rb.ofRow {w : World} {v : Value} {l : List Int} {F : Nat → Prop} (h : Row w 5 1 (ic .u8) v l) (hF : ∀ k, v.ownBlock = some k → F k) : Rb w v l F := by
  obtain ⟨A, c, e, h1, h2⟩ := h.slice
  subst e
  refine ⟨A, c, rfl, h1, h2, h.rd (ic_len _) rfl, fun ad ea _ => ?_⟩
  subst ea
  exact hF _ rfl
theorem Rb.nil (w : World) (F : Nat → Prop) : Rb w (.slice none 0 0) [] F := ⟨none, 0, rfl, Nat.le_refl _, by simp [maxLen], Rd.none_ _ _ _ _, fun ad e => by cases e⟩
/-- The files of block mb. -/
def FS (w : World) (mb n : Nat) (f : ByteArray → Option (List Int)) (F : Nat → Prop) : Prop :=
  ∃ m, FM w mb n m ∧ ¬ F mb ∧ ∀ s, match f s, m s with
    | some l, some v => Rb w v l F
    | none, none => True
    | _, _ => False
theorem FS.mod {w w' : World} {mb n : Nat} {f : ByteArray → Option (List Int)} {F G : Nat → Prop} (h : FS w mb n f F) (hm : Mod G w w') (hd : ∀ k, F k → ¬ G k) (hb : ¬ G mb) : FS w' mb n f F := by
  obtain ⟨m, h1, h2, h3⟩ := h
  refine ⟨m, h1.mod hm hb, h2, fun s => ?_⟩
  have := h3 s
  revert this
  cases f s <;> cases m s <;> intro this
  · trivial
  · exact this
  · exact this
  · exact Rb.mod this hm hd
theorem FS.mono {w : World} {mb n : Nat} {f : ByteArray → Option (List Int)} {F G : Nat → Prop} (h : FS w mb n f F) (hG : ∀ k, F k → G k) (hb : ¬ G mb) : FS w mb n f G := by
  obtain ⟨m, h1, h2, h3⟩ := h
  refine ⟨m, h1, hb, fun s => ?_⟩
  have := h3 s
  revert this
  cases f s <;> cases m s <;> intro this
  · trivial
  · exact this
  · exact this
  · exact Rb.mono this hG
theorem FS.le {w : World} {mb n k : Nat} {f : ByteArray → Option (List Int)} {F : Nat → Prop} (h : FS w mb n f F) (hk : n ≤ k) : FS w mb k f F := by
  obtain ⟨m, h1, h2, h3⟩ := h
  exact ⟨m, h1.mono hk, h2, h3⟩
theorem FS.lt {w : World} {mb n : Nat} {f : ByteArray → Option (List Int)} {F : Nat → Prop} (h : FS w mb n f F) : mb < w.heap.size := by obtain ⟨m, h1, _⟩ := h; exact h1.lt
theorem FS.made (w : World) (F : Nat → Prop) (hF : ¬ F w.heap.size) : FS (w.alloc (.map #[] 0)) w.heap.size 0 (fun _ => none) F := ⟨_, FM.made w, hF, fun _ => trivial⟩
/-- A file, looked up: its value. -/
theorem FS.get {w : World} {mb n : Nat} {f : ByteArray → Option (List Int)} {F : Nat → Prop} (h : FS w mb n f F) (s : ByteArray) (hs : s.size ≤ maxLen) :
    ∃ v, (Instr.lookup 72 (.map (some mb)) (.string s) false).run Tryz.prog w = .ok v w ∧ (Instr.lookup 72 (.map (some mb)) (.string s) true).run Tryz.prog w = .ok (.tuple #[v, .bool (f s).isSome]) w ∧ Rb w v ((f s).getD []) F ∧ ((f s).isSome = false → v = .slice none 0 0) := by
  obtain ⟨m, h1, h2, h3⟩ := h
  refine ⟨_, h1.look s hs, ?_, ?_, ?_⟩
  · rw [h1.look_ok s hs]
    have := h3 s
    revert this
    cases f s <;> cases m s <;> intro this <;> first | rfl | exact this.elim
  · have := h3 s
    revert this
    cases f s <;> cases m s <;> intro this
    · exact Rb.nil _ _
    · exact this.elim
    · exact this.elim
    · exact this
  · have := h3 s
    revert this
    cases f s <;> cases m s <;> intro this hf
    · rfl
    · exact this.elim
    · cases hf
    · cases hf
def upd (f : ByteArray → Option (List Int)) (s : ByteArray) (l : Option (List Int)) : ByteArray → Option (List Int) := fun t => if t = s then l else f t
/-- A file is laid. -/
theorem FS.set {w : World} {mb n : Nat} {f : ByteArray → Option (List Int)} {F : Nat → Prop} (h : FS w mb n f F) (hn : n < maxLen) (s : ByteArray) (hs : s.size ≤ maxLen) (v : Value) (l : List Int) (hv : Rb w v l F) :
    ∃ w', (Instr.mapUpdate 72 (.map (some mb)) (.string s) v).run Tryz.prog w = .ok () w' ∧ Mod (fun k => k = mb) w w' ∧ FS w' mb (n + 1) (upd f s (some l)) F := by
  obtain ⟨m, h1, h2, h3⟩ := h
  obtain ⟨w', hr, h4, h5⟩ := h1.store hn s hs v
  have hd : ∀ k, F k → ¬ k = mb := fun k hk e => h2 (e ▸ hk)
  refine ⟨w', hr, h5, _, h4, h2, fun t => ?_⟩
  by_cases e : t = s
  · simp only [upd, if_pos e]
    exact hv.mod h5 hd
  · simp only [upd, if_neg e]
    have := h3 t
    revert this
    cases f t <;> cases m t <;> intro this
    · trivial
    · exact this
    · exact this
    · exact Rb.mod this h5 hd
/-- A file is struck. -/
theorem FS.del {w : World} {mb n : Nat} {f : ByteArray → Option (List Int)} {F : Nat → Prop} (h : FS w mb n f F) (s : ByteArray) (hs : s.size ≤ maxLen) (ty : TypeId) :
    ∃ w', (Builtin.delete_ #[72, 9] ty #[.map (some mb), .string s]).run Tryz.prog w = .ok (.tuple #[]) w' ∧ Mod (fun k => k = mb) w w' ∧ FS w' mb n (upd f s none) F := by
  obtain ⟨m, h1, h2, h3⟩ := h
  obtain ⟨w', hr, h4, h5⟩ := h1.drop s hs ty
  have hd : ∀ k, F k → ¬ k = mb := fun k hk e => h2 (e ▸ hk)
  refine ⟨w', hr, h5, _, h4, h2, fun t => ?_⟩
  by_cases e : t = s
  · simp only [upd, if_pos e]
  · simp only [upd, if_neg e]
    have := h3 t
    revert this
    cases f t <;> cases m t <;> intro this
    · trivial
    · exact this
    · exact this
    · exact Rb.mod this h5 hd
theorem splice_take {α : Type} (C X : List α) (n off m : Nat) (hX : X.length = m) (h : off + m ≤ n) (hn : n ≤ C.length) : (C.take off ++ (X ++ C.drop (off + m))).take n = (C.take n).take off ++ (X ++ (C.take n).drop (off + m)) := by
  have hA : (C.take off).length = off := by rw [List.length_take]; omega
  rw [List.take_append, hA, List.take_of_length_le (by omega : (C.take off).length ≤ n), List.take_append, hX, List.take_of_length_le (by omega : X.length ≤ n - off), List.take_take, Nat.min_eq_left (by omega : off ≤ n), List.drop_take]
  congr 3
  omega
section
variable {w : World} {ops : Array Oper} {rest : List Oper} {o : Oper} {a : Act} {Q : Exit → Act → World → Prop}
/-- An operation that turns the world in a way that is known. -/
theorem list_do {w' : World} {v : Value} (hg : o.guard = none) (h : (execOp a.eval o).run Tryz.prog w = .ok (.value v) w') (hn : wpList Tryz.prog ops Q rest (a.put o.dst v) w') : wpList Tryz.prog ops Q (o :: rest) a w :=
  wpList_plain hg fun _ hK => by
    unfold Oper.wp
    rw [h]
    exact hK _ _ hn
/-- 'copy(f[off:], p)' into a row of the call's own. -/
theorem list_copy (d s : Operand) (hgd : o.guard = none) (ho : o.op = .call { callee := .builtin .copy, args := #[d, s], argTypes := #[22, 22] }) (A : Option Addr) (n c off : Nat) (L : List Int) (hv : Row w 5 1 (ic .u8) (.slice A n c) L)
    (dp sp : Option Addr) (dCap m sc : Nat) (hd : a.eval d = .slice dp (n - off) dCap) (hs : a.eval s = .slice sp m sc) (l : List Int) (hr : Rd w 1 (ic .u8) sp m l) (hfit : off + m ≤ n) (hdp : 0 < m → dp = A.map (·.add off))
    (h : ∀ w', Row w' 5 1 (ic .u8) (.slice A n c) (L.take off ++ (l ++ L.drop (off + m))) → Mod (fun k => A.map (·.block) = some k) w w' → wpList Tryz.prog ops Q rest (a.put o.dst (goInt m)) w') : wpList Tryz.prog ops Q (o :: rest) a w := by
  have hLn : L.length = n := (hv.rd (ic_len _) rfl).1
  by_cases h0 : m = 0
  · have hl : l = [] := List.eq_nil_of_length_eq_zero (by rw [hr.1]; exact h0)
    subst hl
    subst h0
    refine wpList_copy_nothing hgd d s 22 22 ho 5 Tryz.underlying22 (by kernel_rfl) dp sp _ dCap 0 sc hd hs (Nat.zero_min _) (h w ?_ (Mod.refl _ _))
    simpa using hv
  · have hnp : 0 < L.length := by omega
    obtain ⟨g, c', e, hg⟩ := hv.some_ hnp
    injection e with e1 e2 e3
    subst e1
    obtain ⟨q1, q2⟩ := hv
    rcases q2 with ⟨e, _⟩ | ⟨g', cap, cur, e, _, hh, hnc, hcm, hcs, ht⟩
    · cases e
    · injection e with e4 _ e5
      injection e4 with e4
      injection e4 with e4 _ _
      subst e4
      subst e5
      have hm0 : 0 < m := by omega
      rw [hdp hm0] at hd
      have hadd : (Option.map (fun x => x.add off) (some (⟨g, 0, none⟩ : Addr))) = some ⟨g, off, none⟩ := by simp [Addr.add]; rintro rfl; rfl
      rw [hadd] at hd
      obtain ⟨ad, rfl, _⟩ := hr.2 0 hm0
      have hl1 : (l.map (Value.int .u8)).length = m := by rw [List.length_map]; exact hr.1
      refine wpList_copy_own hgd d s 22 22 ho 5 Tryz.underlying22 (by kernel_rfl) g off (n - off) dCap ad m sc hd hs cur 5 hh (l.map (Value.int .u8)) (by rw [hl1]; show m = Nat.min m (n - off); exact (Nat.min_eq_left (by omega)).symm) ?_ (by rw [hl1, hcs]; omega) ?_ ?_
      · intro j v hj
        rw [List.getElem?_map] at hj
        obtain ⟨x, hx, rfl⟩ := Option.map_eq_some_iff.1 hj
        have hjm : j < m := by rw [← hr.1]; exact (List.getElem?_eq_some_iff.1 hx).1
        obtain ⟨_, e, hc⟩ := hr.int j hjm
        obtain rfl := Option.some.inj e
        rw [hc, gi_eq l j (by rw [hr.1]; exact hjm), (List.getElem?_eq_some_iff.1 hx).2]
      · intro v hv
        simp at hv
        obtain ⟨x, _, rfl⟩ := hv
        rfl
      · rw [hl1]
        refine h _ ?_ (mod_setRow (F := fun k => Option.map (fun x => x.block) (some (⟨g, 0, none⟩ : Addr)) = some k) (Mod.refl _ _) (.inl rfl) _)
        have hlen : (L.take off ++ (l ++ L.drop (off + m))).length = n := by
          rw [List.length_append, List.length_append, List.length_take, List.length_drop, hr.1]; omega
        refine ⟨by rw [flat_ic]; simp, .inr ⟨g, c, _, by rw [hlen], Nat.zero_le _, setRow_heap w g cur _ 5 _ hh, by rw [hlen]; omega, hcm, ?_, ?_⟩⟩
        · simp only [List.size_toArray, List.length_append, List.length_take, List.length_drop, Array.length_toList, hl1, hcs]
          omega
        · rw [hLn, Nat.mul_one, flat_ic] at ht
          rw [hlen, Nat.mul_one, flat_ic, List.map_append, List.map_append, List.map_take, List.map_drop, ← ht]
          exact splice_take _ _ n off m hl1 hfit (by rw [Array.length_toList, hcs]; omega)
end
end Go.Proofs.YtjkpelbhhapebaaGreatDoor.W
