/-
  sync.Once's slow road in one goroutine: the lock, the deferred calls, walked. Conditions: the lock is free; not yet done. Start, walked: what was kept is read, once. The reading's contract is asked. Conditions: the lock is free.
-/
import Derived.Test.YtjkpelbhhapebaaGreatDoorUnit1
import Derived.Tactics
import Derived.Tactics2
import Derived.Defers
import Derived.Laws.Pointers
import Derived.Laws.LoneSync
import Derived.Laws.NewBlocks
import Derived.RegionTactic
import Derived.RegionCalls
import Derived.ChangeAlike
import Derived.Deep.RegionHeld3
namespace Go.Proofs.YtjkpelbhhapebaaGreatDoor
open Go.RowKit
set_option maxRecDepth 100000
theorem disable (w : World) : (callFunc 165 #[]).run Tryz.prog w = .ok (.value (.tuple #[])) w := run_call_mark0 Tryz.func165 (by kernel_rfl) (by kernel_rfl) (by kernel_rfl) .disable (by kernel_rfl) w
theorem enable (w : World) : (callFunc 167 #[]).run Tryz.prog w = .ok (.value (.tuple #[])) w := run_call_mark0 Tryz.func167 (by kernel_rfl) (by kernel_rfl) (by kernel_rfl) .enable (by kernel_rfl) w
theorem acquire (a : Addr) (w : World) : (callFunc 168 #[.pointer (some a)]).run Tryz.prog w = .ok (.value (.tuple #[])) w := run_call_marked Tryz.func168 (by kernel_rfl) (by kernel_rfl) (by kernel_rfl) .acquire (by kernel_rfl) a w
theorem releaseMerge (a : Addr) (w : World) : (callFunc 170 #[.pointer (some a)]).run Tryz.prog w = .ok (.value (.tuple #[])) w := run_call_marked Tryz.func170 (by kernel_rfl) (by kernel_rfl) (by kernel_rfl) .releaseMerge (by kernel_rfl) a w
/-- '(*sync/atomic.Bool).Store(true)', entered as a deferred call. -/
theorem store_deferred (a : Addr) (x : Value) (u : FrameMode) (w : World) (hc : w.cell? a = some x) (hz : w.frozen? a = false) :
    CallsD Tryz.prog 114 #[.pointer (some a), .bool true] u w fun e u' w' => u' = u ∧ (e = .returned (.tuple #[]) ∧ w' = w.drew.setCell a (.int .u32 1)) := by
  have hc' : w.drew.cell? a = some x := by go_simp
  have hz' : w.drew.frozen? a = false := by go_simp
  have hst := run_call_store (P := Tryz.prog) Tryz.func147 (by kernel_rfl) (by kernel_rfl) (by kernel_rfl) (by kernel_rfl) (k := .u32) (y := 1) hc' hz'
  go_enter_d Tryz.func114, Tryz.ntmps114
  go_wp2
  go_region_calls
  all_goals (go_end0; exact ⟨rfl, rfl⟩)
/-- '(*sync.Mutex).Unlock', entered as a deferred call, the lock held. -/
theorem unlock_deferred (a : Addr) (u : FrameMode) (w : World) (hc : w.cell? a = some (.int .i32 1)) (hz : w.frozen? a = false) :
    CallsD Tryz.prog 113 #[.pointer (some a)] u w fun e u' w' => u' = u ∧ (e = .returned (.tuple #[]) ∧ w' = w.setCell a (.int .i32 0)) := by
  have hd := disable
  have he := enable
  have hr := releaseMerge
  have hadd := run_call_add (P := Tryz.prog) Tryz.func171 (by kernel_rfl) (by kernel_rfl) (by kernel_rfl) .i32 (by kernel_rfl) (y := -1) (s := 0) hc hz (by simp [go_sem]; rfl)
  have hcv := run_convert_to_unsafe (P := Tryz.prog) (src := 285) (dst := 289) Tryz.underlying285 Tryz.underlying289 (by kernel_rfl) hc
  go_enter_d Tryz.func113, Tryz.ntmps113
  go_wp2
  go_end0
  go_wp2
  go_end0
  exact ⟨rfl, rfl⟩
/-- '(*sync.Mutex).Lock', the lock free. -/
theorem lock_free (a : Addr) (w : World) (hc : w.cell? a = some (.int .i32 0)) (hz : w.frozen? a = false) :
    Calls Tryz.prog 112 #[.pointer (some a)] w fun e w' => e = .returned (.tuple #[]) ∧ w' = w.setCell a (.int .i32 1) := by
  have hd := disable
  have he := enable
  have ha := acquire
  have hcas := run_call_cas_hit (P := Tryz.prog) Tryz.func166 (by kernel_rfl) (by kernel_rfl) (by kernel_rfl) .i32 (by kernel_rfl) (y := 1) hc hz
  have hc' : (w.setCell a (.int .i32 1)).cell? a = some (.int .i32 1) := World.cell?_setCell_same w a _ hc
  have hcv := run_convert_to_unsafe (P := Tryz.prog) (src := 285) (dst := 289) Tryz.underlying285 Tryz.underlying289 (by kernel_rfl) hc'
  go_enter Tryz.func112, Tryz.ntmps112
  go_wp2
  first | go_end0 | (simp only [Exit.inBlock, Exit.then]; refine bodyPost_ret (results_none rfl _ _ _) rfl ?_) | refine bodyPost_ret (results_none rfl _ _ _) rfl ?_
  go_wp2
  go_end0
  exact ⟨rfl, rfl⟩
end Go.Proofs.YtjkpelbhhapebaaGreatDoor
namespace Go.Proofs.YtjkpelbhhapebaaGreatDoor
open Go.RowKit
open W (Nxt)
set_option maxRecDepth 100000
section
variable {B : Nat} {c : Nat → Nat} {w : World} {a : UA} {S : US} {mu : Int}
/-- A store into the unit's own block. -/
theorem UN.put (h : UN B c w a S mu) (i : Nat) (v : Value) (d' m' : Int) (e : ∀ n, (uA a S.prot S.done mu n).setIfInBounds i v = uA a S.prot d' m' n) :
    UN B c (w.setCell ⟨a.u, i, none⟩ v) a { S with done := d' } m' ∧ UX B c c w (w.setCell ⟨a.u, i, none⟩ v) := by
  obtain ⟨n, hu⟩ := h.own.1
  exact h.self (hu.set i v (e n)) (mod_s (Mod.refl _ w)) (by simp [World.setCell])
theorem UN.drew (h : UN B c w a S mu) : UN B c w.drew a S mu ∧ UX B c c w w.drew := h.keep ((Mod.refl _ w).drew)
theorem UN.cells (h : UN B c w a S mu) : w.cell? ⟨a.u, 5, none⟩ = some (.pointer (some ⟨a.dv, 0, none⟩)) ∧ w.cell? ⟨a.u, 6, none⟩ = some (.pointer (some ⟨a.kp, 0, none⟩)) ∧ w.cell? ⟨a.u, 7, none⟩ = some (.pointer (some ⟨a.pg, 0, none⟩)) ∧ w.cell? ⟨a.u, 8, none⟩ = some (.pointer (some ⟨a.tb, 0, none⟩)) ∧
    w.cell? ⟨a.u, 9, none⟩ = some (.pointer (some ⟨a.qb, 0, none⟩)) ∧ w.cell? ⟨a.u, 11, none⟩ = some (.int .u32 S.done) ∧ w.cell? ⟨a.u, 12, none⟩ = some (.int .i32 mu) ∧ w.cell? ⟨a.u, 14, none⟩ = some (.int .i64 0) ∧ ∀ i, w.frozen? ⟨a.u, i, none⟩ = false := by
  obtain ⟨n, hu⟩ := h.own.1
  exact ⟨hu.at_ 5, hu.at_ 6, hu.at_ 7, hu.at_ 8, hu.at_ 9, hu.at_ 11, hu.at_ 12, hu.at_ 14, hu.fr⟩
theorem UN.ult (h : UN B c w a S mu) : a.u < w.heap.size := by
  obtain ⟨n, hu⟩ := h.own.1
  exact hu.lt
end
/-- What a step of the unit leaves: its state in some form. -/
def Lft (B : Nat) (c : Nat → Nat) (W : World) (u : Nat) (mu : Int) (R : UA → US → Prop) (w' : World) : Prop := ∃ c' a' S', UN B c' w' a' S' mu ∧ a'.u = u ∧ UX B c c' W w' ∧ R a' S'
/-- The reading's contract. -/
def LoadC (B : Nat) (a : UA) (S : US) (R : UA → US → Prop) : Prop := ∀ c W, UN B c W a S 1 → Calls Tryz.prog 43 #[.pointer (some ⟨a.u, 0, none⟩)] W fun e w' => e = .returned (.int .i64 0) ∧ Lft B c W a.u 1 R w'
set_option maxHeartbeats 2000000 in
theorem start1_in (B : Nat) (c : Nat → Nat) (a : UA) (S : US) (R : UA → US → Prop) (pl : Nat) (w : World) (h : UN B c w a S 1) (hld : LoadC B a S R) (hpl : w.cell? ⟨pl, 0, none⟩ = some (.pointer (some ⟨a.u, 0, none⟩))) (hc : c pl = 0) :
    Calls Tryz.prog 42 #[.pointer (some ⟨pl, 0, none⟩)] w fun e w' => e = .returned (.tuple #[]) ∧ Lft B c w a.u 1 R w' := by
  have hl := hld c w.drew (h.drew).1
  have hne : pl ≠ a.u := fun e => by have := h.own.2.1; rw [← e, hc] at this; cases this
  have hplt := World.block_lt_of_cell? w _ hpl
  obtain ⟨u, hu⟩ : ∃ u, u = a.u := ⟨_, rfl⟩
  rw [← hu] at hl hpl hne ⊢
  have hdr := h.drew.2
  replace h := hide h; replace hl := hide hl; replace hld := hide hld; replace hc := hide hc; replace hdr := hide hdr; replace hu := hide hu
  go_enter Tryz.func42, Tryz.ntmps42
  go_region_held3 (fun w' => w'.cell? ⟨pl, 0, none⟩ = some (.pointer (some ⟨u, 0, none⟩)))
    ((first | exact hpl | exact hpl1 | (rw [World.cell?_setCell_other _ _ _ _ (by intro e; injection e with e _ _; exact hne e.symm)]; exact hpl1)))
    (first
    | (go_at_call 43; (with_reducible refine hl.out.mono ?_); rintro e w1 ⟨rfl, hL⟩
       obtain ⟨c1, a1, S1, U1, hu1, X1, hR1⟩ := hL
       obtain ⟨-, -, -, -, -, -, -, k14, hfr⟩ := U1.cells
       rw [hu1] at k14 hfr
       have f14 := hfr 14
       clear hfr
       have hpl1 : w1.cell? ⟨pl, 0, none⟩ = some (.pointer (some ⟨u, 0, none⟩)) := X1.mod.cell (p := ⟨pl, 0, none⟩) hpl (fun e => e hc.out)
       have hP := U1.put 14 (.int .i64 0) S1.done 1 (fun n => rfl)
       rw [hu1] at hP
       replace hP := hide hP; replace hR1 := hide hR1; replace X1 := hide X1; replace hu1 := hide hu1; replace U1 := hide U1))
  go_end0
  exact ⟨rfl, c1, a1, _, hP.out.1, hu1.out, hdr.out.trans (X1.out.trans hP.out.2), hR1.out⟩
/-- What Start leaves. -/
def Dn (R : UA → US → Prop) (a : UA) (S : US) : Prop := ∃ S0, S = { S0 with done := 1 } ∧ R a S0
set_option maxHeartbeats 4000000 in
theorem slow_in (B : Nat) (c : Nat → Nat) (a : UA) (S : US) (R : UA → US → Prop) (pl : Nat) (w : World) (h : UN B c w a S 0) (hd0 : S.done = 0) (hld : LoadC B a S R) (hpl : w.cell? ⟨pl, 0, none⟩ = some (.pointer (some ⟨a.u, 0, none⟩))) (hc : c pl = 0) :
    Calls Tryz.prog 68 #[.pointer (some ⟨a.u, 11, none⟩), .func (.func 42) #[] #[.pointer (some ⟨pl, 0, none⟩)]] w fun e w' => e = .returned (.tuple #[]) ∧ Lft B c w a.u 0 (Dn R) w' := by
  have hne : pl ≠ a.u := fun e => by have := h.own.2.1; rw [← e, hc] at this; cases this
  obtain ⟨-, -, -, -, -, k11, k12, -, hfr⟩ := h.cells
  have hP1 := h.put 12 (.int .i32 1) S.done 1 (fun n => rfl)
  have hpl1 : (w.setCell ⟨a.u, 12, none⟩ (.int .i32 1)).cell? ⟨pl, 0, none⟩ = some (.pointer (some ⟨a.u, 0, none⟩)) := by
    rw [World.cell?_setCell_other _ _ _ _ (by intro e; injection e with e _ _; exact hne e.symm)]
    exact hpl
  obtain ⟨-, -, -, -, -, k11', -, -, -⟩ := hP1.1.cells
  rw [hd0] at k11 k11'
  have hl := run_call_load (P := Tryz.prog) Tryz.func111 (by kernel_rfl) (by kernel_rfl) (by kernel_rfl) .u32 (by kernel_rfl) (w := w.setCell ⟨a.u, 12, none⟩ (.int .i32 1)) (a := ⟨a.u, 11, none⟩) (x := 0) k11'
  have hs1 := start1_in B c a S R pl _ hP1.1 hld hpl1 hc
  have hnot : ∀ (x : Bool) (w : World), (Op.unary .not (.bool x)).run Tryz.prog w = .ok (.bool (!x)) w := fun _ _ => rfl
  have f12 := hfr 12
  have hlk := lock_free ⟨a.u, 12, none⟩ w k12 f12
  clear hfr k11 hpl hpl1
  obtain ⟨u, hu⟩ : ∃ u, u = a.u := ⟨_, rfl⟩
  rw [← hu] at hl hs1 k12 hne f12 hlk k11' ⊢
  replace h := hide h; replace hld := hide hld; replace hc := hide hc; replace hu := hide hu; replace hP1 := hide hP1; replace hs1 := hide hs1; replace hd0 := hide hd0; replace hlk := hide hlk
  go_enter_defers Tryz.func68, Tryz.ntmps68
  go_wp2_with (first
    | (go_at_call 112; (with_reducible refine hlk.out.mono ?_); rintro e w' ⟨rfl, rfl⟩)
    | (go_at_call 67; go_in)
    | (go_at_call 42; (with_reducible refine hs1.out.mono ?_); rintro e w2 ⟨rfl, hL⟩
       replace hL := hide hL))
  obtain ⟨c2, a2, S2, U2, hu2, X2, hR2⟩ := hL.out
  obtain ⟨-, -, -, -, -, q11, -, -, qfr⟩ := U2.cells
  rw [hu2] at q11 qfr
  have D1 := U2.drew
  have P1 := D1.1.put 11 (.int .u32 1) 1 1 (fun n => rfl)
  obtain ⟨-, -, -, -, -, -, p12, -, pfr⟩ := P1.1.cells
  have P2 := P1.1.put 12 (.int .i32 0) 1 0 (fun n => rfl)
  rw [hu2] at P1 P2 p12 pfr
  refine leaves_cons (f := 114) (args := #[.pointer (some ⟨u, 11, none⟩), .bool true]) (by simp) (by simp [go_sem]) ?_
  refine (store_deferred ⟨u, 11, none⟩ _ .returning _ q11 (qfr 11)).mono ?_
  rintro e u' w'' ⟨rfl, rfl, rfl⟩
  refine leaves_cons (f := 113) (args := #[.pointer (some ⟨u, 12, none⟩)]) (by simp [settle]) (by simp [go_sem]) ?_
  refine (unlock_deferred ⟨u, 12, none⟩ _ _ p12 (pfr 12)).mono ?_
  rintro e u' w'' ⟨rfl, rfl, rfl⟩
  have X1 := hP1.out.2
  rw [← hu.out] at X1
  have hE : Lft B c w u 0 (Dn R) (((w2.drew.setCell ⟨u, 11, none⟩ (.int .u32 1)).setCell ⟨u, 12, none⟩ (.int .i32 0))) := ⟨c2, a2, _, P2.1, hu2, X1.trans (X2.trans (D1.2.trans (P1.2.trans P2.2))), S2, rfl, hR2⟩
  simp [Leaves, settle, results, Tryz.results68, hE]
set_option maxHeartbeats 2000000 in
theorem once_in (B : Nat) (c : Nat → Nat) (a : UA) (S : US) (R : UA → US → Prop) (pl : Nat) (w : World) (h : UN B c w a S 0) (hd0 : S.done = 0) (hld : LoadC B a S R) (hpl : w.cell? ⟨pl, 0, none⟩ = some (.pointer (some ⟨a.u, 0, none⟩))) (hc : c pl = 0) :
    Calls Tryz.prog 41 #[.pointer (some ⟨a.u, 11, none⟩), .func (.func 42) #[] #[.pointer (some ⟨pl, 0, none⟩)]] w fun e w' => e = .returned (.tuple #[]) ∧ Lft B c w a.u 0 (Dn R) w' := by
  obtain ⟨-, -, -, -, -, k11, -, -, -⟩ := h.cells
  rw [hd0] at k11
  have hl := run_call_load (P := Tryz.prog) Tryz.func111 (by kernel_rfl) (by kernel_rfl) (by kernel_rfl) .u32 (by kernel_rfl) k11
  have hnot : ∀ (x : Bool) (w : World), (Op.unary .not (.bool x)).run Tryz.prog w = .ok (.bool (!x)) w := fun _ _ => rfl
  have hsl := slow_in B c a S R pl w h hd0 hld hpl hc
  replace h := hide h; replace hld := hide hld; replace hc := hide hc; replace hsl := hide hsl; replace hd0 := hide hd0
  go_enter Tryz.func41, Tryz.ntmps41
  go_wp2_with (first
    | (go_at_call 68; (with_reducible refine hsl.out.mono ?_); rintro e w' ⟨rfl, hL⟩; replace hL := hide hL)
    | (go_at_call 67; go_in))
  go_end0
  exact ⟨rfl, hL.out⟩
theorem once_done (u : Nat) (fv : Value) (w : World) (k11 : w.cell? ⟨u, 11, none⟩ = some (.int .u32 1)) :
    Calls Tryz.prog 41 #[.pointer (some ⟨u, 11, none⟩), fv] w fun e w' => e = .returned (.tuple #[]) ∧ w = w' := by
  have hl := run_call_load (P := Tryz.prog) Tryz.func111 (by kernel_rfl) (by kernel_rfl) (by kernel_rfl) .u32 (by kernel_rfl) k11
  have hnot : ∀ (x : Bool) (w : World), (Op.unary .not (.bool x)).run Tryz.prog w = .ok (.bool (!x)) w := fun _ _ => rfl
  go_enter Tryz.func41, Tryz.ntmps41
  go_wp2
  go_end0
  exact ⟨rfl, rfl⟩
set_option maxHeartbeats 2000000 in
/-- Start, the first time. -/
theorem start_first (B : Nat) (c : Nat → Nat) (a : UA) (S : US) (R : UA → US → Prop) (w : World) (h : UN B c w a S 0) (hd0 : S.done = 0) (hld : LoadC B a S R) :
    Calls Tryz.prog 21 #[.pointer (some ⟨a.u, 0, none⟩)] w fun e w' => e = .returned (.int .i64 0) ∧ Lft B c w a.u 0 (Dn R) w' := by
  have hmf : ∀ (fn : Fn) (first cap : Array Value) (w : World), (Instr.makeFunc fn first cap).run Tryz.prog w = .ok (.func fn first cap) w := fun _ _ _ _ => rfl
  have ma : Mod (fun _ => False) w (w.alloc (.cells #[.pointer (some ⟨a.u, 0, none⟩)] 24)) := (Mod.refl _ w).alloc _
  have K := h.keep ma
  obtain ⟨k5, -⟩ := K.1.cells
  have hp : (w.alloc (.cells #[.pointer (some ⟨a.u, 0, none⟩)] 24)).cell? ⟨w.heap.size, 0, none⟩ = some (.pointer (some ⟨a.u, 0, none⟩)) := by rw [World.cell?_alloc_new]; rfl
  have hcw : c w.heap.size = 0 := h.sup _ (Nat.le_refl _)
  have hon := once_in B c a S R w.heap.size _ K.1 hd0 hld hp hcw
  have hul := h.ult
  have KX := K.2
  have k5w := h.cells.1
  clear hld K
  replace h := hide h; replace hon := hide hon; replace hcw := hide hcw; replace KX := hide KX
  generalize a.u = u at *
  replace hd0 := hide hd0; replace ma := hide ma
  go_enter Tryz.func21, Tryz.ntmps21
  go_wp2_with (go_at_call 41; (with_reducible refine hon.out.mono ?_); rintro e w2 ⟨rfl, hL⟩
               obtain ⟨c2, a2, S2, U2, hu2, X2, hR2⟩ := hL
               obtain ⟨-, -, -, -, -, -, -, q14, -⟩ := U2.cells
               rw [hu2] at q14
               have hpl2 := X2.mod.cell hp (fun e => e hcw.out)
               replace hR2 := hide hR2; replace X2 := hide X2; replace U2 := hide U2; replace hu2 := hide hu2)
  go_ret
  exact ⟨rfl, c2, a2, S2, U2.out, hu2.out, KX.out.trans X2.out, hR2.out⟩
set_option maxHeartbeats 2000000 in
theorem start_again (B : Nat) (c : Nat → Nat) (a : UA) (S : US) (w : World) (h : UN B c w a S 0) (hd1 : S.done = 1) :
    Calls Tryz.prog 21 #[.pointer (some ⟨a.u, 0, none⟩)] w fun e w' => e = .returned (.int .i64 0) ∧ Mod (fun _ => False) w w' := by
  have hmf : ∀ (fn : Fn) (first cap : Array Value) (w : World), (Instr.makeFunc fn first cap).run Tryz.prog w = .ok (.func fn first cap) w := fun _ _ _ _ => rfl
  have ma : Mod (fun _ => False) w (w.alloc (.cells #[.pointer (some ⟨a.u, 0, none⟩)] 24)) := (Mod.refl _ w).alloc _
  have K := h.keep ma
  obtain ⟨k5, -, -, -, -, k11, -, k14, -⟩ := K.1.cells
  rw [hd1] at k11
  have hp : (w.alloc (.cells #[.pointer (some ⟨a.u, 0, none⟩)] 24)).cell? ⟨w.heap.size, 0, none⟩ = some (.pointer (some ⟨a.u, 0, none⟩)) := by rw [World.cell?_alloc_new]; rfl
  have hon := once_done a.u (.func (.func 42) #[] #[.pointer (some ⟨w.heap.size, 0, none⟩)]) _ k11
  have hul := h.ult
  have k5w := h.cells.1
  have k14w := h.cells.2.2.2.2.2.2.2.1
  clear K
  replace h := hide h; replace hon := hide hon
  generalize a.u = u at *
  replace hd1 := hide hd1; replace ma := hide ma
  go_enter Tryz.func21, Tryz.ntmps21
  go_wp2_with (go_at_call 41; (with_reducible refine hon.out.mono ?_); rintro e w2 ⟨rfl, rfl⟩)
  go_ret
  exact ⟨rfl, ma.out⟩
end Go.Proofs.YtjkpelbhhapebaaGreatDoor
