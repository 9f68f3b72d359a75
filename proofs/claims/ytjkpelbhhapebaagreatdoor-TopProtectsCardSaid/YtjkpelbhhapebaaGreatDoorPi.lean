/-
  Blocks and their tuples; the walks of pi.Make, Check, Known, Size. Conditions: as stated.
-/
import Derived.Test.YtjkpelbhhapebaaGreatDoorCrc
import Derived.Test.YtjkpelbhhapebaaGreatDoorOdd
namespace Go.Proofs.YtjkpelbhhapebaaGreatDoor
open Go.RowKit
set_option maxRecDepth 100000
/-- A block: its bytes, its guard, its tags. -/
structure Bl where
  d : List Int
  g : Int
  a : Int
  r : Int
instance : Inhabited Bl := ⟨⟨[], 0, 0, 0⟩⟩
/-- A block's bytes as cells. -/
def dcs (d : List Int) : List Value := (List.range 16).map fun i => .int .u8 (gi d i)
def encB (b : Bl) : List Value := dcs b.d ++ [.int .u16 b.g, .int .u16 b.a, .int .u32 b.r]
def da (d : List Int) : Array Value := (dcs d).toArray
def ba (b : Bl) : Array Value := (encB b).toArray
theorem dcs_len (d : List Int) : (dcs d).length = 16 := by simp [dcs]
theorem encB_len : ∀ b, (encB b).length = 19 := fun b => by simp [encB, dcs_len]
theorem dcs_one (d : List Int) : ∀ u ∈ dcs d, u.oneCell' = true := by
  intro u hu
  simp only [dcs, List.mem_map] at hu
  obtain ⟨i, -, rfl⟩ := hu
  rfl
theorem encB_one : ∀ b, ∀ u ∈ encB b, u.oneCell' = true := by
  intro b u hu
  simp only [encB, List.mem_append, List.mem_cons, List.not_mem_nil, or_false] at hu
  rcases hu with hu | rfl | rfl | rfl
  · exact dcs_one _ u hu
  · rfl
  · rfl
  · rfl
theorem dcs_map {d : List Int} (h : d.length = 16) : dcs d = d.map (Value.int .u8) := by
  unfold dcs
  apply List.ext_getElem
  · simp [h]
  · intro i h1 h2
    simp at h1
    simp [gi_eq d i (by omega)]
/-- What is well with a block. -/
def OkBl (b : Bl) : Prop := b.d.length = 16 ∧ Bytes b.d ∧ (0 ≤ b.g ∧ b.g ≤ 65535) ∧ (0 ≤ b.a ∧ b.a ≤ 65535) ∧ (0 ≤ b.r ∧ b.r ≤ 4294967295)
/-- A block of cells, read. -/
theorem rd_block {w : World} {b : Nat} {cs : Array Value} {t : TypeId} {fr : Nat × Nat} {k : IntKind} {l : List Int} (h : w.heap[b]? = some (.cells cs t fr)) (hl : cs.toList = l.map (Value.int k)) : Rd w 1 (ic k) (some ⟨b, 0, none⟩) l.length l :=
  rd_ints rfl fun i hi => ⟨_, rfl, by
    have e : (⟨b, 0, none⟩ : Addr).add i = ⟨b, i, none⟩ := by simp [Addr.add]; rintro rfl; rfl
    rw [e, cell_of_row w b i _ t fr h, ← Array.getElem?_toList, hl, List.getElem?_map, List.getElem?_eq_getElem hi, gi_eq l i hi]
    rfl⟩
theorem rd_da {w : World} {b : Nat} {d : List Int} {t : TypeId} {fr : Nat × Nat} (h : w.heap[b]? = some (.cells (da d) t fr)) (hd : d.length = 16) : Rd w 1 (ic .u8) (some ⟨b, 0, none⟩) 16 d := by
  have := rd_block (k := .u8) (l := d) h (by rw [da, dcs_map hd])
  rwa [hd] at this
/-- The tag that a block's place gives. -/
def refOf (kind lba : Int) : Int := if kind = 1 ∨ kind = 2 then lba else 0
set_option maxHeartbeats 1000000 in
theorem make_any (kind lba app : Int) (d : List Int) (w : World) (hd : d.length = 16) (hb : Bytes d) (hlba : 0 ≤ lba ∧ lba ≤ 1000000) :
    Calls Tryz.prog 139 #[.int .u8 kind, .int .u64 lba, .agg (da d), .int .u16 app] w fun e w' => e = .returned (.agg #[.int .u16 (c16 d), .int .u16 app, .int .u32 (refOf kind lba)]) ∧ Mod (fun _ => False) w w' := by
  have hh : ((w.alloc (.cells (da d) 255)).alloc (.cells #[.int .u16 0, .int .u16 0, .int .u32 0] 257)).heap[w.heap.size]? = some (.cells (da d) 255 (0, 0)) := heap_alloc2_old _ _ _
  have hc := c16_any (some ⟨w.heap.size, 0, none⟩) 16 16 d _ (rd_da hh hd) hb (by decide)
  obtain ⟨l0, l1⟩ := hlba
  replace hc := hide hc
  clear hh
  by_cases k1 : kind = 1
  · have e1 : (kind == 1) = true := by simpa using k1
    have hres : refOf kind lba = lba := by rw [refOf, if_pos (.inl k1)]
    rw [hres]
    clear hres k1
    go_enter Tryz.func139, Tryz.ntmps139
    go_wp2_with (go_at_call 160; (with_reducible refine hc.out.mono ?_); rintro e w' ⟨rfl, rfl⟩)
    exact bodyPost_ret (v := .agg #[.int .u16 (c16 d), .int .u16 app, .int .u32 lba]) (by simp [results, Tryz.results139, go_sem]) rfl ⟨rfl, (((Mod.refl _ w).alloc _).alloc _).alloc _⟩
  · have e1 : (kind == 1) = false := by simpa using k1
    by_cases k2 : kind = 2
    · have e2 : (kind == 2) = true := by simpa using k2
      have hres : refOf kind lba = lba := by rw [refOf, if_pos (.inr k2)]
      rw [hres]
      clear hres k1 k2
      go_enter Tryz.func139, Tryz.ntmps139
      go_wp2_with (go_at_call 160; (with_reducible refine hc.out.mono ?_); rintro e w' ⟨rfl, rfl⟩)
      exact bodyPost_ret (v := .agg #[.int .u16 (c16 d), .int .u16 app, .int .u32 lba]) (by simp [results, Tryz.results139, go_sem]) rfl ⟨rfl, (((Mod.refl _ w).alloc _).alloc _).alloc _⟩
    · have e2 : (kind == 2) = false := by simpa using k2
      have hres : refOf kind lba = 0 := by rw [refOf, if_neg (by omega)]
      rw [hres]
      clear hres k1 k2
      go_enter Tryz.func139, Tryz.ntmps139
      go_wp2_with (go_at_call 160; (with_reducible refine hc.out.mono ?_); rintro e w' ⟨rfl, rfl⟩)
      exact bodyPost_ret (v := .agg #[.int .u16 (c16 d), .int .u16 app, .int .u32 0]) (by simp [results, Tryz.results139, go_sem]) rfl ⟨rfl, (((Mod.refl _ w).alloc _).alloc _).alloc _⟩
set_option maxHeartbeats 400000 in
theorem size_no (w : World) : Calls Tryz.prog 144 #[.bool false] w fun e w' => e = .returned (.int .i64 16) ∧ w = w' := by
  go_enter Tryz.func144, Tryz.ntmps144
  go_wp2
  go_ret
  exact ⟨rfl, rfl⟩
set_option maxHeartbeats 400000 in
theorem size_yes (w : World) : Calls Tryz.prog 144 #[.bool true] w fun e w' => e = .returned (.int .i64 24) ∧ w = w' := by
  go_enter Tryz.func144, Tryz.ntmps144
  go_wp2
  go_ret
  exact ⟨rfl, rfl⟩
set_option maxHeartbeats 400000 in
theorem known_ok (kind prot : Int) (w : World) (hk : 0 ≤ kind ∧ kind ≤ 3) (hp : prot = 0 ∨ 0 < kind ∧ prot ≤ 4) : Calls Tryz.prog 96 #[.int .u8 kind, .int .u8 prot] w fun e w' => e = .returned (.bool true) ∧ w = w' := by
  have d1 : decide (kind ≤ 3) = true := by simpa using hk.2
  by_cases h0 : prot = 0
  · have d2 : (prot == 0) = true := by simpa using h0
    clear h0 hp
    go_enter Tryz.func96, Tryz.ntmps96
    go_wp2
    go_ret
    exact ⟨rfl, rfl⟩
  · have d2 : (prot == 0) = false := by simpa using h0
    have d3 : decide (0 < kind) = true := by simp; omega
    have d4 : decide (prot ≤ 4) = true := by simp; omega
    clear h0 hp
    go_enter Tryz.func96, Tryz.ntmps96
    go_wp2
    go_ret
    exact ⟨rfl, rfl⟩
end Go.Proofs.YtjkpelbhhapebaaGreatDoor
