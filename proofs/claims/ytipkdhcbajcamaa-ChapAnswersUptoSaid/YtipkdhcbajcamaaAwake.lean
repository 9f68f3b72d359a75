/-
  The examples that each law begins with are answered as the document has them. No condition.
-/
import Derived.Test.YtipkdhcbajcamaaHex
import Derived.Deep.WholeRow
namespace Go.Proofs.Ytipkdhcbajcamaa
open Go.RowKit
theorem hex_nil : strOf (hexL (md [])) = ⟨#[48, 120, 100, 52, 49, 100, 56, 99, 100, 57, 56, 102, 48, 48, 98, 50, 48, 52, 101, 57, 56, 48, 48, 57, 57, 56, 101, 99, 102, 56, 52, 50, 55, 101]⟩ := by
  rw [md_nil]; rfl
theorem hex_abc : strOf (hexL (md [97, 98, 99])) = ⟨#[48, 120, 57, 48, 48, 49, 53, 48, 57, 56, 51, 99, 100, 50, 52, 102, 98, 48, 100, 54, 57, 54, 51, 102, 55, 100, 50, 56, 101, 49, 55, 102, 55, 50]⟩ := by
  rw [md_abc]; rfl
theorem md_by (l : List Int) : ∀ x ∈ md l, 0 ≤ x ∧ x ≤ 255 := outB_by _ _
theorem md_len (l : List Int) : (md l).length = 16 := outB_len _ _
/-- A sum's block, as a slice. -/
theorem rd_md {w : World} {g : Nat} {l : List Int} {t : TypeId} (h : w.heap[g]? = some (.cells ((md l).map (Value.int .u8)).toArray t (0, 0))) : Rd w 1 (ic .u8) (some ⟨g, 0, none⟩) 16 (md l) :=
  rd_ints (md_len l) fun i hi => ⟨_, rfl, by
    have e : (⟨g, 0, none⟩ : Addr).add i = ⟨g, i, none⟩ := by simp [Addr.add]; rintro rfl; rfl
    rw [e, cell_of_row w g i _ t (0, 0) h, gi_eq _ _ (by rw [md_len]; exact hi)]
    simp [md_len, hi]⟩

def vn : Array Value := #[.int .u8 212, .int .u8 29, .int .u8 140, .int .u8 217, .int .u8 143, .int .u8 0, .int .u8 178, .int .u8 4, .int .u8 233, .int .u8 128, .int .u8 9, .int .u8 152, .int .u8 236, .int .u8 248, .int .u8 66, .int .u8 126]
def va : Array Value := #[.int .u8 144, .int .u8 1, .int .u8 80, .int .u8 152, .int .u8 60, .int .u8 210, .int .u8 79, .int .u8 176, .int .u8 214, .int .u8 150, .int .u8 63, .int .u8 125, .int .u8 40, .int .u8 225, .int .u8 127, .int .u8 114]
theorem vn_eq : ((md []).map (Value.int .u8)).toArray = vn := by rw [md_nil]; rfl
theorem va_eq : ((md [97, 98, 99]).map (Value.int .u8)).toArray = va := by rw [md_abc]; rfl
theorem ones (l : List Int) : ((l.map (Value.int .u8)).toArray).all (·.oneCell') = true := by
  rw [Array.all_eq_true_iff_forall_mem]
  intro v hv
  simp at hv
  obtain ⟨x, _, rfl⟩ := hv
  rfl
theorem vn_one : vn.all (·.oneCell') = true := by rw [← vn_eq]; exact ones _
theorem va_one : va.all (·.oneCell') = true := by rw [← va_eq]; exact ones _
theorem set_md (w : World) (vs : Array Value) : (w.alloc z16).setRow w.heap.size vs = w.alloc (.cells vs 24) := World.setRow_alloc_new w _ vs 24
theorem sum_nil (w : World) : Calls Try.prog 8 #[.slice none 0 0] w fun e w' => e = .returned (.agg vn) ∧ Mod (fun _ => False) w w' := by
  rw [← vn_eq]
  exact sum_any none 0 0 [] w (Rd.none_ _ _ _ _) (by decide) (hide (fun x hx => by cases hx))
theorem sum_abc (w : World) (g c : Nat) (h : Rd w 1 (ic .u8) (some ⟨g, 0, none⟩) 3 [97, 98, 99]) : Calls Try.prog 8 #[.slice (some ⟨g, 0, none⟩) 3 c] w fun e w' => e = .returned (.agg va) ∧ Mod (fun _ => False) w w' := by
  rw [← va_eq]
  exact sum_any _ 3 c [97, 98, 99] w h (by decide) (hide (fun x hx => by simp at hx; omega))
theorem hex_n (w : World) (g : Nat) (h : w.heap[g]? = some (.cells vn 24 (0, 0))) : Calls Try.prog 12 #[.slice (some ⟨g, 0, none⟩) 16 16] w fun e w' => e = .returned (.string ⟨#[48, 120, 100, 52, 49, 100, 56, 99, 100, 57, 56, 102, 48, 48, 98, 50, 48, 52, 101, 57, 56, 48, 48, 57, 57, 56, 101, 99, 102, 56, 52, 50, 55, 101]⟩) ∧ Mod (fun _ => False) w w' := by
  rw [← vn_eq] at h
  rw [← hex_nil]
  exact hex_any _ 16 16 _ w (rd_md h) (by decide) (hide (md_by _))
theorem hex_a (w : World) (g : Nat) (h : w.heap[g]? = some (.cells va 24 (0, 0))) : Calls Try.prog 12 #[.slice (some ⟨g, 0, none⟩) 16 16] w fun e w' => e = .returned (.string ⟨#[48, 120, 57, 48, 48, 49, 53, 48, 57, 56, 51, 99, 100, 50, 52, 102, 98, 48, 100, 54, 57, 54, 51, 102, 55, 100, 50, 56, 101, 49, 55, 102, 55, 50]⟩) ∧ Mod (fun _ => False) w w' := by
  rw [← va_eq] at h
  rw [← hex_abc]
  exact hex_any _ 16 16 _ w (rd_md h) (by decide) (hide (md_by _))
theorem rd_abc (w : World) (fr : Nat × Nat) : Rd (w.alloc (.cells #[.int .u8 97, .int .u8 98, .int .u8 99] 5 fr)) 1 (ic .u8) (some ⟨w.heap.size, 0, none⟩) 3 [97, 98, 99] :=
  rd_ints rfl fun i hi => ⟨_, rfl, by
    have e : (⟨w.heap.size, 0, none⟩ : Addr).add i = ⟨w.heap.size, i, none⟩ := by simp [Addr.add]; rintro rfl; rfl
    rw [e, World.cell?_alloc_mark]
    have hi : i < 3 := hi
    obtain rfl | rfl | rfl : i = 0 ∨ i = 1 ∨ i = 2 := by omega
    all_goals rfl⟩

set_option maxHeartbeats 2000000 in
theorem awake_any (w : World) : Calls Try.prog 7 #[] w fun e w' => e = .returned (.bool true) ∧ Mod (fun _ => False) w w' := by
  have kc := fun (w : World) (C : Array Value) (n c : Nat) => Lib.run_convert_bytes_const (P := Try.prog) w 22 5 C n c Try.underlying22 Try.underlying5
  have st1 := fun w => run_storeCells_new (P := Try.prog) w 24 #[.int .u8 0, .int .u8 0, .int .u8 0, .int .u8 0, .int .u8 0, .int .u8 0, .int .u8 0, .int .u8 0, .int .u8 0, .int .u8 0, .int .u8 0, .int .u8 0, .int .u8 0, .int .u8 0, .int .u8 0, .int .u8 0] vn (by kernel_rfl) rfl vn_one
  have st2 := fun w => run_storeCells_new (P := Try.prog) w 24 #[.int .u8 0, .int .u8 0, .int .u8 0, .int .u8 0, .int .u8 0, .int .u8 0, .int .u8 0, .int .u8 0, .int .u8 0, .int .u8 0, .int .u8 0, .int .u8 0, .int .u8 0, .int .u8 0, .int .u8 0, .int .u8 0] va (by kernel_rfl) rfl va_one
  have tok1 : True := trivial
  have tok2 : True := trivial
  have tok3 : True := trivial
  have tok4 : True := trivial
  go_enter Try.func7, Try.ntmps7
  go_wp2_with (first
    | (go_at_call 8; have _t := tok1; (with_reducible refine (sum_nil _).mono ?_); rintro e w1 ⟨rfl, m1⟩; clear tok1
       have kc1 := kc (w1.alloc (.cells vn 24)) #[.int .u8 97, .int .u8 98, .int .u8 99] 3 3
       have hsz1 : (w1.alloc (.cells vn 24)).heap.size = w1.heap.size + 1 := by simp
       have hab := rd_abc (w1.alloc (.cells vn 24)) (3, 4)
       rw [hsz1] at kc1 hab
       clear hsz1
       replace hab := hide hab
       replace m1 := hide m1)
    | (go_at_call 8; have _t := tok2; (with_reducible refine (sum_abc _ _ _ hab.out).mono ?_); rintro e w2 ⟨rfl, m2⟩; clear tok2
       have hn1 : w2.heap[w1.heap.size]? = some (.cells vn 24 (0, 0)) := m2.heap (((Mod.refl (fun _ => False) _).alloc _).heap (heap_alloc_new w1 _) (fun h => h)) (fun h => h)
       have hn2 : (w2.alloc (.cells va 24)).heap[w1.heap.size]? = some (.cells vn 24 (0, 0)) := ((Mod.refl (fun _ => False) _).alloc _).heap hn1 (fun h => h)
       replace m2 := hide m2
       replace hn1 := hide hn1
       replace hn2 := hide hn2)
    | (go_at_call 12; have _t := tok3; (with_reducible refine (hex_n _ _ hn2.out).mono ?_); rintro e w3 ⟨rfl, m3⟩; clear tok3
       have hn3 : w3.heap[w2.heap.size]? = some (.cells va 24 (0, 0)) := m3.heap (heap_alloc_new w2 _) (fun h => h)
       replace m3 := hide m3
       replace hn3 := hide hn3)
    | (go_at_call 12; have _t := tok4; (with_reducible refine (hex_a _ _ hn3.out).mono ?_); rintro e w4 ⟨rfl, m4⟩; clear tok4
       replace m4 := hide m4))
  go_ret
  exact ⟨rfl, ((((((m1.out).alloc _).alloc _).trans m2.out (fun _ _ h => h)).alloc _).trans m3.out (fun _ _ h => h)).trans m4.out (fun _ _ h => h)⟩
end Go.Proofs.Ytipkdhcbajcamaa
