/-
  For every row of attributes and every task, TaskRefuses returns true and leaves its arguments as they were. No condition.
-/
import Derived.Test.YtabkplmpkdbchaaFill
import Derived.Test.YtabkplmpkdbchaaOpen
import Derived.Test.YtabkplmpkdbchaaEq
namespace Go.Proofs.Ytabkplmpkdbchaa.taskRefuses
open Go.ChangeShapes Go.WideShapes Go.ChangeAt Go.RowKit Go.Deep
set_option linter.unusedVariables false

theorem own : ownKnob Try.prog.godebug = none := by kernel_rfl
theorem laidOut : laidOutB Try.prog = true := by kernel_rfl

theorem ent_cases (l : List T) (aca : Int) (t : T) : ent l aca t = (0, 0, l ++ [{ t with st := false }]) ∨ (∃ y, ent l aca t = (0, y, l) ∧ (y == 0) = false ∧ (y != 0) = true) ∨ ∃ x, ent l aca t = (x, 0, l) ∧ (x == 0) = false := by
  unfold ent
  split
  · first | exact .inr (.inl ⟨_, rfl, by decide, by decide⟩) | exact .inr (.inr ⟨_, rfl, by decide⟩)
  · split
    · first | exact .inr (.inl ⟨_, rfl, by decide, by decide⟩) | exact .inr (.inr ⟨_, rfl, by decide⟩)
    · split
      · first | exact .inr (.inl ⟨_, rfl, by decide, by decide⟩) | exact .inr (.inr ⟨_, rfl, by decide⟩)
      · split
        · first | exact .inr (.inl ⟨_, rfl, by decide, by decide⟩) | exact .inr (.inr ⟨_, rfl, by decide⟩)
        · exact .inl rfl

theorem S.live {w : World} {b : Nat} {l : List T} {aca : Int} {F : Nat → Prop} (h : S w b l aca F) : S w b l aca (fun k => F k ∧ k < w.heap.size) := by
  have hb := h.lt
  obtain ⟨v, h1, h2, h3, h4⟩ := h
  exact ⟨v, h1, ⟨h2, hb⟩, h3, fun k hk => ⟨h4 k hk, h3.lt k hk⟩⟩

theorem box_cell {w : World} {k : Nat} {cs : Array Value} {e : TypeId} {fr : Nat × Nat} (h : w.heap[k]? = some (.cells cs e fr)) {L : List Value} (hL : L = cs.toList) {j : Nat} {u : Value} (hu : L[j]? = some u) : w.cell? (Addr.add ⟨k, 0, none⟩ j) = some u := by
  subst hL
  rw [show Addr.add ⟨k, 0, none⟩ j = ⟨k, j, none⟩ from by rw [Addr.add]; split <;> simp_all, cell_of_row w k j _ e fr h]
  simpa using hu
theorem below_heap {a w : World} (h : Below a.heap.size a w) {k : Nat} {o : Obj} (hc : a.heap[k]? = some o) : w.heap[k]? = some o := (Mod.ofBelow (F := fun _ => False) h).heap hc (by simp)

theorem box_keep {W0 w1 w2 w3 : World} {k : Nat} {nx tag at_ : Int} {st : Bool} (hbx : W0.heap[k]? = some (.cells #[.int .i64 nx, .int .u32 tag, .int .u8 at_, .bool st] 26)) (m1 : Mod (fun _ => False) W0 w1) (bl2 : Below w1.heap.size w1 w2) (m3 : Mod (fun _ => False) w2 w3) :
    ∀ j u, [Value.int .i64 nx, .int .u32 tag, .int .u8 at_, .bool st][j]? = some u → w3.cell? (Addr.add ⟨k, 0, none⟩ j) = some u := fun j u hu => by
  have h1 := m1.heap hbx (by simp)
  have h2 := below_heap bl2 h1
  have h3 := m3.heap h2 (by simp)
  exact box_cell h3 rfl hu

set_option maxRecDepth 100000 in
set_option maxHeartbeats 2000000 in
theorem walk (A : Option Addr) (len cap : Nat) (attrs : List Int) (t : T) (w : World) (hr : Rd w 1 (ic .u8) A len attrs) (hb : ∀ a ∈ attrs, 0 ≤ a ∧ a ≤ 255) :
    Calls Try.prog 3 #[.slice A len cap, av t] w fun e w' => e = .returned (.bool true) ∧ Below w.heap.size w w' := by
  have hec := ent_cases (fillL attrs (min len 16)) (-1) t
  obtain ⟨nx, tag, at_, st⟩ := t
  have m0 : Mod (fun _ => False) w (w.alloc (.cells #[.int .i64 nx, .int .u32 tag, .int .u8 at_, .bool st] 26)) := (Mod.refl _ w).alloc _
  have hbx : (w.alloc (.cells #[.int .i64 nx, .int .u32 tag, .int .u8 at_, .bool st] 26)).heap[w.heap.size]? = some (.cells #[.int .i64 nx, .int .u32 tag, .int .u8 at_, .bool st] 26) := heap_alloc_new _ _
  have hz0 : w.heap.size < (w.alloc (.cells #[.int .i64 nx, .int .u32 tag, .int .u8 at_, .bool st] 26)).heap.size := by simp
  generalize hW0 : w.alloc (.cells #[.int .i64 nx, .int .u32 tag, .int .u8 at_, .bool st] 26) = W0 at *
  have hfill : ∀ W, Mod (fun _ => False) W0 W → _ := fun W hm => fill_any A len cap attrs W ((hr.mod m0 (by simp)).mod hm (by simp)) hb
  have haw := awake_any W0
  have hll : (fillL attrs (min len 16)).length ≤ 16 := by rw [fillL_length]; omega
  generalize fillL attrs (min len 16) = l at *
  obtain ⟨n, hn⟩ : ∃ n, n = l.length := ⟨_, rfl⟩
  replace hn := hide hn
  clear hr hb
  replace m0 := hide m0
  replace hbx := hide hbx
  replace hz0 := hide hz0
  replace hfill := hide hfill
  replace hW0 := hide hW0
  replace haw := hide haw
  replace hll := hide hll
  rcases hec with he | ⟨y, he, hy, hy2⟩ | ⟨x, he, hx⟩
  all_goals
    replace he := hide he
    go_enter Try.func3, Try.ntmps3
    go_wp2_with (first
      | (go_at_call 9; rw [hW0.out]; (with_reducible refine haw.out.mono ?_); rintro e w1 ⟨rfl, m1⟩; replace m1 := hide m1)
      | (go_at_call 10; (with_reducible refine (hfill.out _ m1.out).mono ?_); rintro e w2 ⟨b, rfl, hs, bl2⟩; replace hs := hide (S.live hs); replace bl2 := hide bl2)
      | (go_at_call 11; (with_reducible refine (tasks_some b l (-1) _ w2 (Nat.le_trans hll.out (by decide)) hs.out).mono ?_); rintro e w3 ⟨v1, rfl, r1, m3, o1⟩; obtain ⟨A1, c1, hv1, -, -⟩ := r1.slice
         rw [← hn.out] at hv1
         have hs3 := hide (hs.out.mod m3 (by simp))
         have hst : ∀ W, Mod (fun k => w1.heap.size ≤ k ∧ k < w2.heap.size) w3 W → Rd W 4 enc A1 n l := fun W hW => (r1.rd enc_len hv1).mod hW fun ad had hk => by
           subst hv1; rw [had] at o1; have := o1 ad.block (by rfl); omega
         have ha3 := box_keep hbx.out m1.out bl2.out m3
         subst hv1
         replace hst := hide hst; replace r1 := hide r1; replace o1 := hide o1; replace m3 := hide m3; replace ha3 := hide ha3)
      | (refine list_load 26 (.tmp 3) rfl rfl _ Try.underlying26 rfl ⟨w.heap.size, 0, none⟩ [.int .i64 nx, .int .u32 tag, .int .u8 at_, .bool st] size26 rfl ha3.out ?_)
      | (go_at_call 12; have henter := enter_some b ⟨nx, tag, at_, st⟩ l (-1) _ w3 hll.out hs3.out; rw [he.out] at henter; (with_reducible refine henter.mono ?_); clear henter; rintro e w4 ⟨rfl, hs4, m4⟩; replace hs4 := hide hs4; replace m4 := hide m4)
      | (go_at_call 11; (with_reducible refine (tasks_some b _ (-1) _ w4 (by have := hll.out; simp; omega) hs4.out).mono ?_); rintro e w5 ⟨v2, rfl, r2, m5, o2⟩; obtain ⟨A2, c2, rfl, -, -⟩ := r2.slice
         have rb := hide (r2.rd enc_len rfl)
         have ra := hide ((hst.out w4 m4.out).mod m5 (by simp))
         try rw [← hn.out]
         replace r2 := hide r2; replace o2 := hide o2; replace m5 := hide m5))
  all_goals
    have hm : Mod (fun _ => False) w w5 := ((((m0.out.trans m1.out (by simp)).trans (Mod.ofBelow (F := fun _ => False) bl2.out) (by simp)).trans m3.out (by simp)).trans m4.out (fun i hi h => by have := hz0.out; have := m1.out.size; omega)).trans m5.out (by simp)
    have hbl := hide (hm.below (Nat.le_refl _) (by simp))
    clear hm
    try rw [← hn.out]
  · skip
    have hb1 : w5.cell? ⟨w.heap.size, 1, none⟩ = some (.int .u32 tag) := by
      have h1 := m1.out.heap hbx.out (by simp)
      have h2 := below_heap bl2.out h1
      have h3 := m3.out.heap h2 (by simp)
      have h4 := m4.out.heap h3 (by have := hz0.out; have := m1.out.size; omega)
      have h5 := m5.out.heap h4 (by simp)
      rw [cell_of_row w5 _ _ _ 26 (0, 0) h5]; rfl
    have hln : (l ++ [(⟨nx, tag, at_, false⟩ : T)]).length = n + 1 := by simp [hn.out]
    rw [hln] at rb
    obtain ⟨g, c9, hv, -⟩ := r2.out.some_ (by simp)
    obtain ⟨rfl, -⟩ : A2 = some ⟨g, 0, none⟩ ∧ c2 = c9 := by injection hv with h1 _ h3; exact ⟨h1, h3⟩
    obtain ⟨ad, e, -, t1, -, t3⟩ := rb.out.task n (by omega)
    obtain rfl := Option.some.inj e
    rw [show Addr.add ⟨g, 0, none⟩ (n * 4 + 1) = ⟨g, n * 4 + 1, none⟩ from by rw [Addr.add, if_neg (by omega)]; simp] at t1
    rw [show Addr.add ⟨g, 0, none⟩ (n * 4 + 3) = ⟨g, n * 4 + 3, none⟩ from by rw [Addr.add, if_neg (by omega)]; simp] at t3
    have hg : gi (l ++ [(⟨nx, tag, at_, false⟩ : T)]) n = (⟨nx, tag, at_, false⟩ : T) := by
      rw [gi_append_right _ _ _ (by rw [← hn.out]; exact Nat.le_refl _), ← hn.out]; simp [gi]
    rw [hg] at t1 t3
    clear hv e
    have hn16 : n ≤ 16 := by rw [hn.out]; exact hll.out
    generalize hn1 : n + 1 = n1 at *
    have e1 : IntKind.i64.wrap ((n : Int) + 1) = (n1 : Int) := by rw [IntWalk.i64_in _ (by omega)]; omega
    have hlt : n < n1 := by omega
    replace hn1 := hide hn1
    clear hfill ra rb hst hs4 hs3 hg hln hs r1 r2 o1 o2 m3 m4 m5 bl2 haw ha3
    go_quiet (fail)
    go_wp2_with fail
    go_ret
    exact ⟨rfl, below_drewN hbl.out _⟩
  all_goals
    rw [← hn.out] at rb
    have hn16 : n ≤ 16 := by rw [hn.out]; exact hll.out
    clear hfill hst hs4 hs3 hs r1 r2 o1 o2 m3 m4 m5 m1 m0 bl2 haw ha3 he hbx hz0 hll
    obtain ⟨W, hW⟩ : ∃ W, W = w5 := ⟨_, rfl⟩
    go_loopw [10] (fun u wr => ∃ k : Nat, k ≤ n ∧ u = .int .i64 k ∧ Hid (∃ m, wr = w5.drewN m)) (fun u _ => n - (intOf u).toNat)
    case atStart => exact ⟨0, by omega, rfl, hide ⟨0, rfl⟩⟩
    case round =>
      obtain ⟨k, hk, rfl, hR⟩ := hrel
      by_cases hlt : k < n
      · obtain ⟨ad, hA, -⟩ := ra.out.elem k hlt
        obtain ⟨bd, hB, -⟩ := rb.out.elem k hlt
        have ga : ∀ m j u, (enc (gi l k))[j]? = some u → (w5.drewN m).cell? ((ad.add (k * 4)).add j) = some u := fun m => by
          obtain ⟨ad', h, hc⟩ := (ra.out.drewN m).elem k hlt
          rw [hA] at h; obtain rfl := Option.some.inj h; exact hc
        have gb : ∀ m j u, (enc (gi l k))[j]? = some u → (w5.drewN m).cell? ((bd.add (k * 4)).add j) = some u := fun m => by
          obtain ⟨ad', h, hc⟩ := (rb.out.drewN m).elem k hlt
          rw [hB] at h; obtain rfl := Option.some.inj h; exact hc
        subst hA; subst hB
        obtain ⟨m, rfl⟩ := hR.out
        replace ga := hide ga
        replace gb := hide gb
        clear ra rb
        have e1 : IntKind.i64.wrap ((k : Int) + 1) = (k : Int) + 1 := IntWalk.i64_in _ (by omega)
        go_wp2_with fail
        refine wp_region_quiet_lit (by kernel_rfl) (by kernel_rfl) ?_
        repeat (first
          | (refine quiet_load 26 (.tmp 78) rfl rfl _ Try.underlying26 rfl (ad.add (k * 4)) (enc (gi l k)) size26 rfl (fun w hw => by obtain ⟨q, rfl⟩ := hw; rw [World.drewN_drewN]; exact ga.out _) ?_)
          | (refine quiet_load 26 (.tmp 82) rfl rfl _ Try.underlying26 rfl (bd.add (k * 4)) (enc (gi l k)) size26 rfl (fun w hw => by obtain ⟨q, rfl⟩ := hw; rw [World.drewN_drewN]; exact gb.out _) ?_)
          | (refine quiet_neq (.tmp 79) (.tmp 83) _ (gi l k) (gi l k) rfl rfl rfl rfl ?_)
          | quiet_step (fail))
        rw [show eqT (gi l k) (gi l k) = true by simp [eqT]]
        refine wpQuiet_nil ?_
        intro _ hw'
        obtain ⟨nq, hw''⟩ := hw'
        subst hw''
        simp [Act.put]
        go_wp2_with fail
        go_roundw
        case rel => exact ⟨k + 1, by omega, by go_num, hide ⟨m + nq, by simp [World.drewN]⟩⟩
        case measure => simp [intOf]; omega
      · obtain rfl : k = n := by omega
        go_wp2_with fail
        go_ret
        obtain ⟨m, rfl⟩ := hR.out
        exact ⟨rfl, below_drewN hbl.out _⟩
end Go.Proofs.Ytabkplmpkdbchaa.taskRefuses
