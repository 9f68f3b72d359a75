/-
  maps.Clone of files. Condition: the map is there.
-/
import Derived.Test.YtmlnieblgkhjnaaSync
import Derived.Shelf.SlMaps.Clone
namespace Go.Proofs.Ytmlnieblgkhjnaa
open Go.RowKit Go.Maps
set_option maxHeartbeats 1000000 in
theorem clone_map (b : Nat) (es : Array MapEntry) (clock : Nat) (w : World) (hb : w.heap[b]? = some (.map es clock)) :
    Calls Try.prog 26 #[.map (some b)] w fun e w' => e = .returned (.map (some w.heap.size)) ∧ w' = w.alloc (.map es clock) := by
  have hq := fun w => run_eql_map_nil_sl (P := Try.prog) w 46 _ _ (some b) Try.underlying46
  go_enter Try.func26, Try.ntmps26
  go_wp2
  rw [run_callFunc_extern (f := 29) (fn := Try.f29) (by kernel_rfl) (by kernel_rfl) (by kernel_rfl) (by kernel_rfl) (e := Extern.MapsClone.clone) (by kernel_rfl), run_maps_clone_sl w 46 hb]
  simp only [Result.andThen]
  rw [Oper.upon_value]
  go_wp2
  rw [run_typeAssert_map_sl _ 46 20 _ _ _ Try.underlying46]
  simp only [Result.andThen]
  rw [Oper.upon_value]
  go_wp2
  go_ret
  exact ⟨rfl, rfl⟩
theorem clone_fs (mb n : Nat) (f : ByteArray → Option (List Int)) (Fb : Nat → Prop) (w : World) (h : FS w mb n f Fb) (hF : ¬ Fb w.heap.size) :
    Calls Try.prog 26 #[.map (some mb)] w fun e w' => e = .returned (.map (some w.heap.size)) ∧ FS w' w.heap.size n f Fb ∧ Mod (fun _ => False) w w' ∧ w.heap.size < w'.heap.size := by
  obtain ⟨m, ⟨D, ⟨es, ck, hb, h1, h3, h4⟩, h2⟩, hnb, hv⟩ := h
  refine (clone_map mb es ck w hb).mono fun e w' ⟨he, hw⟩ => ?_
  subst hw
  have hm : Mod (fun _ => False) w (w.alloc (.map es ck)) := (Mod.refl _ w).alloc _
  refine ⟨he, ⟨m, ⟨D, ⟨es, ck, (MapKept.heap_alloc w _).1, h1, h3, h4⟩, h2⟩, hF, fun s => ?_⟩, hm, by simp⟩
  have := hv s
  revert this
  cases f s <;> cases m s <;> intro this
  · trivial
  · exact this
  · exact this
  · exact Rb.mod this hm fun _ _ h => h
end Go.Proofs.Ytmlnieblgkhjnaa
