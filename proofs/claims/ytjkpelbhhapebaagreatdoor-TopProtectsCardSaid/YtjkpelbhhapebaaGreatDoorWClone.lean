/-
  maps.Clone of files. Condition: the map is there.
-/
import Derived.Test.YtjkpelbhhapebaaGreatDoorWSync
import Derived.Shelf.SlMaps.Clone
namespace Go.Proofs.YtjkpelbhhapebaaGreatDoor.W
open Go.RowKit Go.Maps
set_option maxRecDepth 100000
set_option maxHeartbeats 1000000 in
theorem clone_map (b : Nat) (es : Array MapEntry) (clock : Nat) (w : World) (hb : w.heap[b]? = some (.map es clock)) :
    Calls Tryz.prog 32 #[.map (some b)] w fun e w' => e = .returned (.map (some w.heap.size)) ∧ w' = w.alloc (.map es clock) := by
  have hq := fun w => run_eql_map_nil_sl (P := Tryz.prog) w 72 _ _ (some b) Tryz.underlying72
  go_enter Tryz.func32, Tryz.ntmps32
  go_wp2
  rw [run_callFunc_extern (f := 65) (fn := Tryz.f65) (by kernel_rfl) (by kernel_rfl) (by kernel_rfl) (by kernel_rfl) (e := Extern.MapsClone.clone) (by kernel_rfl), run_maps_clone_sl w 72 hb]
  simp only [Result.andThen]
  rw [Oper.upon_value]
  go_wp2
  rw [run_typeAssert_map_sl _ 72 20 _ _ _ Tryz.underlying72]
  simp only [Result.andThen]
  rw [Oper.upon_value]
  go_wp2
  go_ret
  exact ⟨rfl, rfl⟩
theorem clone_fs (mb n : Nat) (f : ByteArray → Option (List Int)) (Fb : Nat → Prop) (w : World) (h : FS w mb n f Fb) (hF : ¬ Fb w.heap.size) :
    Calls Tryz.prog 32 #[.map (some mb)] w fun e w' => e = .returned (.map (some w.heap.size)) ∧ FS w' w.heap.size n f Fb ∧ Mod (fun _ => False) w w' ∧ w.heap.size < w'.heap.size := by
  obtain ⟨m, ⟨D, ⟨es, ck, hb, h1, h3, h4⟩, h2⟩, hnb, hv⟩ := h
  refine (clone_map mb es ck w hb).mono fun e w' ⟨he, hw⟩ => ?_
  subst hw
  have hm : Mod (fun _ => False) w (w.alloc (.map es ck)) := (Mod.refl _ w).alloc _
  refine ⟨he, ⟨m, ⟨D, ⟨es, ck, (MapKept.heap_alloc w _).1, h1, h3, h4⟩, h2⟩, hF, fun s => ?_⟩, hm, by simp⟩
  have := hv s
  revert this
  cases f s <;> cases m s <;> intro this
  · trivial
  · exact this
  · exact this
  · exact Rb.mod this hm fun _ _ h => h
end Go.Proofs.YtjkpelbhhapebaaGreatDoor.W
