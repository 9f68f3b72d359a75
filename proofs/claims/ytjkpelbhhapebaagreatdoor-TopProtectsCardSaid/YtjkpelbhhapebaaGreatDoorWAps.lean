/-
  apply, walked: renamings and removals; and all three as one. Conditions: files and names of ordinary sizes.
-/
import Derived.Test.YtjkpelbhhapebaaGreatDoorWApply
namespace Go.Proofs.YtjkpelbhhapebaaGreatDoor.W
open Go.RowKit Go.Maps
set_option maxRecDepth 100000
set_option maxHeartbeats 4000000 in
theorem apply_r (mb n : Nat) (f : ByteArray → Option (List Int)) (Fb : Nat → Prop) (name nto : ByteArray) (off : Nat) (mo : Int) (pv : Value) (w : World) (hf : FS w mb n f Fb) (hs : name.size ≤ maxLen) (hpv : ∃ A m c, pv = .slice A m c) :
    Calls Tryz.prog 31 #[.map (some mb), .agg #[.int .u8 114, .string name, .string nto, .int .i64 off, pv], .int .i64 mo] w fun e w' => e = .returned (.tuple #[]) ∧
      FS w' mb n (upd f name none) Fb ∧ Mod (fun k => k = mb) w w' := by
  obtain ⟨Ap, np, cp, rfl⟩ := hpv
  have hmlt := hf.lt
  have ma : Mod (fun _ => False) w (w.alloc (.cells #[.int .u8 114, .string name, .string nto, .int .i64 off, .slice Ap np cp] 119)) := (Mod.refl _ w).alloc _
  have hf1 := hide (hf.mod ma (fun _ _ h => h) (fun h => h))
  replace ma := hide ma
  replace hf := hide hf
  go_enter Tryz.func31, Tryz.ntmps31
  go_wp2_with (first
    | (refine list_del (.tmp 67) (.tmp 69) rfl rfl mb n name f Fb rfl rfl hf1.out hs ?_
       intro w6 m6 f6
       have hE := hide (And.intro f6 ((ma.out.mono (fun _ _ h => h.elim)).trans m6 (fun _ _ h => h)))
       clear m6 f6))
  refine bodyPost_end (results_none rfl _ _ _) rfl ?_
  exact ⟨rfl, hE.out⟩
set_option maxHeartbeats 4000000 in
theorem apply_n (mb n : Nat) (f : ByteArray → Option (List Int)) (Fb : Nat → Prop) (name nto : ByteArray) (off : Nat) (mo : Int) (pv : Value) (w : World) (hf : FS w mb n f Fb) (hn : n < maxLen) (hs : name.size ≤ maxLen) (hs2 : nto.size ≤ maxLen) (hpv : ∃ A m c, pv = .slice A m c) :
    Calls Tryz.prog 31 #[.map (some mb), .agg #[.int .u8 110, .string name, .string nto, .int .i64 off, pv], .int .i64 mo] w fun e w' => e = .returned (.tuple #[]) ∧
      FS w' mb (n + 1) (if (f name).isSome then upd (upd f name none) nto (f name) else upd f name none) Fb ∧ Mod (fun k => k = mb) w w' := by
  obtain ⟨Ap, np, cp, rfl⟩ := hpv
  have hmlt := hf.lt
  have hnb : ¬ Fb mb := by obtain ⟨_, _, h, _⟩ := hf; exact h
  have ma : Mod (fun _ => False) w (w.alloc (.cells #[.int .u8 110, .string name, .string nto, .int .i64 off, .slice Ap np cp] 119)) := (Mod.refl _ w).alloc _
  have hf1 := hf.mod ma (fun _ _ h => h) (fun h => h)
  obtain ⟨v0, -, hlk, hb0, -⟩ := hf1.get name hs
  replace hf1 := hide hf1
  replace hb0 := hide hb0
  replace hf := hide hf
  replace ma := hide ma
  obtain ⟨A0, m0, c0, rfl⟩ : ∃ A m c, v0 = .slice A m c := by obtain ⟨A, c, e, _⟩ := hb0.out; exact ⟨A, _, c, e⟩
  obtain ⟨l, hl⟩ : ∃ l, l = f name := ⟨_, rfl⟩
  rw [← hl] at hlk hb0 ⊢
  clear hl
  cases l with
  | none =>
    simp only [Option.isSome_none] at hlk ⊢
    go_enter Tryz.func31, Tryz.ntmps31
    go_wp2_with (first
      | (refine list_del (.tmp 57) (.tmp 59) rfl rfl mb n name f Fb rfl rfl hf1.out hs ?_
         intro w6 m6 f6
         have hE := hide (And.intro (f6.le (Nat.le_succ n)) ((ma.out.mono (fun _ _ h => h.elim)).trans m6 (fun _ _ h => h)))
         clear m6 f6))
    refine bodyPost_end (results_none rfl _ _ _) rfl ?_
    exact ⟨rfl, hE.out⟩
  | some l =>
    simp only [Option.isSome_some, if_true] at hlk ⊢
    go_enter Tryz.func31, Tryz.ntmps31
    go_wp2_with (first
      | (refine list_del (.tmp 57) (.tmp 59) rfl rfl mb n name f Fb rfl rfl hf1.out hs ?_
         intro w5 m5 f5
         have hb5 := hide (hb0.out.mod m5 (fun k hk e => hnb (e ▸ hk)))
         have hf5 := hide f5
         have hm5 := hide ((ma.out.mono (fun _ _ h => h.elim)).trans m5 (fun _ _ h => h))
         have q5 : w5.cell? ⟨w.heap.size, 2, none⟩ = some (.string nto) := by rw [cell_of_row w5 _ 2 _ 119 (0, 0) (m5.heap (heap_alloc_new _ _) (by omega))]; rfl
         clear m5 f5)
      | (at_mapUpdate; refine list_store (.tmp 61) (.tmp 63) (.tmp 64) rfl rfl mb n nto _ _ _ _ rfl rfl rfl hf5.out hn hs2 hb5.out ?_
         intro w6 m6 f6
         have hE := hide (And.intro f6 (hm5.out.trans m6 (fun _ _ h => h)))
         clear m6 f6))
    refine bodyPost_end (results_none rfl _ _ _) rfl ?_
    exact ⟨rfl, hE.out⟩

/-- A change. -/
structure Cg where
  k : Int
  name : ByteArray
  nto : ByteArray
  off : Nat
  p : List Int
instance : Inhabited Cg := ⟨⟨0, ⟨#[]⟩, ⟨#[]⟩, 0, []⟩⟩
/-- A change of an ordinary size. -/
def OkC (c : Cg) : Prop := (c.k = 119 ∨ c.k = 110 ∨ c.k = 114) ∧ c.off + c.p.length ≤ 1048576 ∧ c.name.size ≤ 32 ∧ c.nto.size ≤ 32
def Ok1 (f : ByteArray → Option (List Int)) : Prop := ∀ s, ((f s).getD []).length ≤ 1048576
/-- A change done to files; of a write the first m bytes. -/
def ap (f : ByteArray → Option (List Int)) (c : Cg) (m : Nat) : ByteArray → Option (List Int) :=
  if c.k = 119 then upd f c.name (some (wrt (f c.name) c.off (c.p.take m)))
  else if c.k = 110 then (if (f c.name).isSome then upd (upd f c.name none) c.nto (f c.name) else upd f c.name none)
  else upd f c.name none
theorem wrt_len (o : Option (List Int)) (off : Nat) (p : List Int) : (wrt o off p).length = max (o.getD []).length (off + p.length) := by
  unfold wrt
  simp only [List.length_append, List.length_take, List.length_drop, List.length_replicate]
  omega
theorem Ok1.upd {f : ByteArray → Option (List Int)} (h : Ok1 f) (s : ByteArray) (o : Option (List Int)) (ho : (o.getD []).length ≤ 1048576) : Ok1 (upd f s o) := by
  intro t
  unfold YtjkpelbhhapebaaGreatDoor.W.upd
  split
  · exact ho
  · exact h t
theorem Ok1.ap {f : ByteArray → Option (List Int)} (h : Ok1 f) (c : Cg) (hc : OkC c) (m : Nat) : Ok1 (ap f c m) := by
  unfold YtjkpelbhhapebaaGreatDoor.W.ap
  split
  · refine h.upd _ _ ?_
    simp only [Option.getD_some, wrt_len, List.length_take]
    have := h c.name
    have := hc.2.1
    omega
  · split
    · split
      · exact (h.upd _ _ (by simp)).upd _ _ (h _)
      · exact h.upd _ _ (by simp)
    · exact h.upd _ _ (by simp)
/-- A change as a value. -/
def cv (c : Cg) (pv : Value) : Value := .agg #[.int .u8 c.k, .string c.name, .string c.nto, .int .i64 c.off, pv]
theorem apply_any (mb n : Nat) (f : ByteArray → Option (List Int)) (Fb G : Nat → Prop) (c : Cg) (m : Nat) (pv : Value) (w : World) (hf : FS w mb n f Fb) (hn : n < 1000000000) (hc : OkC c) (ho : Ok1 f) (hp : Rb w pv c.p G) (hm : m ≤ 1048576) :
    Calls Tryz.prog 31 #[.map (some mb), cv c pv, .int .i64 m] w fun e w' => e = .returned (.tuple #[]) ∧
      FS w' mb (n + 1) (ap f c m) (fun k => Fb k ∨ (w.heap.size ≤ k ∧ k < w'.heap.size)) ∧ Mod (fun k => k = mb) w w' := by
  obtain ⟨k, name, nto, off, p⟩ := c
  obtain ⟨h1, h2, h3, h4⟩ := hc
  have hlt := hf.lt
  have hnb : ¬ Fb mb := by obtain ⟨_, _, h, _⟩ := hf; exact h
  have hnb2 : ∀ w' : World, ¬ (Fb mb ∨ (w.heap.size ≤ mb ∧ mb < w'.heap.size)) := by
    rintro w' (h | h)
    · exact hnb h
    · omega
  have hpv : ∃ A m c, pv = .slice A m c := by obtain ⟨A, c, e, _⟩ := hp; exact ⟨A, _, c, e⟩
  simp only at h1 h2 h3 h4 hp
  unfold ap cv
  rcases h1 with rfl | rfl | rfl
  · exact apply_w mb n f Fb G name nto off m pv p w hf hn (by simp [maxLen]; omega) hp (by omega) (by omega) (by omega) (Nat.le_trans (ho name) (by omega))
  · exact (apply_n mb n f Fb name nto off m pv w hf (by simp [maxLen]; omega) (by simp [maxLen]; omega) (by simp [maxLen]; omega) hpv).mono fun e w' ⟨a1, a2, a3⟩ => ⟨a1, a2.mono (fun k hk => .inl hk) (hnb2 w'), a3⟩
  · exact (apply_r mb n f Fb name nto off m pv w hf (by simp [maxLen]; omega) hpv).mono fun e w' ⟨a1, a2, a3⟩ => ⟨a1, (a2.mono (fun k hk => .inl hk) (hnb2 w')).le (Nat.le_succ n), a3⟩
end Go.Proofs.YtjkpelbhhapebaaGreatDoor.W
