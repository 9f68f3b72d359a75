/-
  The walks of the other methods of task.Set. Conditions: a set of at most a thousand tasks in memory of its own, or a nil one.
-/
import Derived.Test.YtabkplmpkdbchaaDrop
namespace Go.Proofs.Ytabkplmpkdbchaa
open Go.RowKit

/-- What a call hands back of the set: the row v of what is gone, and what stays. -/
def Gone (b : Nat) (gone left : List T) (aca : Int) (F : Nat → Prop) (w w' : World) (v : Value) : Prop :=
  Row w' 26 4 enc v gone ∧ S w' b left aca (PlusBut F w w' v) ∧ Mod F w w' ∧ ∀ j, v.ownBlock = some j → w.heap.size ≤ j
theorem Gone.from {b : Nat} {gone left : List T} {aca : Int} {F : Nat → Prop} {w w1 w' : World} {v : Value} (h : Gone b gone left aca F w1 w' v) (hm : Mod F w w1) : Gone b gone left aca F w w' v := by
  obtain ⟨h1, h2, h3, h4⟩ := h
  refine ⟨h1, h2.mono fun k hk => ?_, hm.trans h3 fun _ _ h => h, fun j hj => Nat.le_trans hm.size (h4 j hj)⟩
  rcases hk with hk | ⟨hk, hk2, hk3⟩
  · exact .inl hk
  · exact .inr ⟨Nat.le_trans hm.size hk, hk2, hk3⟩
theorem S.setAca {w : World} {b : Nat} {l : List T} {aca : Int} {F : Nat → Prop} (h : S w b l aca F) (x : Int) : S (w.setCell ⟨b, 1, none⟩ (.int .i64 x)) b l x F ∧ Mod F w (w.setCell ⟨b, 1, none⟩ (.int .i64 x)) := by
  obtain ⟨v, h1, h2, h3, h4⟩ := h
  have hset : Mod (fun k => k = b) w (w.setCell ⟨b, 1, none⟩ (.int .i64 x)) := (Mod.refl (fun k => k = b) w).setCell (p := ⟨b, 1, none⟩) (.inl rfl) _
  exact ⟨⟨v, by simp [World.setCell, Array.getElem?_modify, h1], h2, h3.mod hset fun k hk e => h3.ne h1 (by decide) (e ▸ hk), h4⟩, (Mod.refl F w).setCell (p := ⟨b, 1, none⟩) (.inl h2) _⟩

set_option maxHeartbeats 400000 in
theorem abortAll_some (b : Nat) (nx : Int) (l : List T) (aca : Int) (F : Nat → Prop) (w : World) (hl : l.length ≤ 1000) (hs : S w b l aca F) :
    Calls Try.prog 13 #[.pointer (some ⟨b, 0, none⟩), .int .i64 nx] w fun e w' => ∃ v, e = .returned v ∧ Gone b (l.filter (pNx nx)) (l.filter fun t => !pNx nx t) aca F w w' v := by
  have hm : Mod (fun _ => False) w (w.alloc (.cells #[.int .i64 nx] 3)) := (Mod.refl _ w).alloc _
  have hd := drop28 b l aca F (w.alloc (.cells #[.int .i64 nx] 3)) hl (hs.mod hm (by simp)) ⟨w.heap.size, 0, none⟩ nx (by rw [World.cell?_alloc_new]; rfl)
  replace hd := hide hd
  replace hm := hide hm
  clear hs
  go_enter Try.func13, Try.ntmps13
  go_wp2_with (go_at_call 27; (with_reducible refine hd.out.mono ?_); rintro e w1 ⟨v, rfl, h1⟩)
  go_ret
  exact ⟨v, rfl, Gone.from h1 (hm.out.mono (by simp))⟩

set_option maxHeartbeats 400000 in
theorem abort_some (b : Nat) (nx tag : Int) (l : List T) (aca : Int) (F : Nat → Prop) (w : World) (hl : l.length ≤ 1000) (hs : S w b l aca F) :
    Calls Try.prog 36 #[.pointer (some ⟨b, 0, none⟩), .int .i64 nx, .int .u32 tag] w fun e w' => ∃ v, e = .returned v ∧ Gone b (l.filter (hit nx tag)) (l.filter fun t => !hit nx tag t) aca F w w' v := by
  have hm : Mod (fun _ => False) w ((w.alloc (.cells #[.int .i64 nx] 3)).alloc (.cells #[.int .u32 tag] 23)) := ((Mod.refl _ w).alloc _).alloc _
  have hd := drop40 b l aca F ((w.alloc (.cells #[.int .i64 nx] 3)).alloc (.cells #[.int .u32 tag] 23)) hl (hs.mod hm (by simp)) ⟨w.heap.size, 0, none⟩ ⟨w.heap.size + 1, 0, none⟩ nx tag (by simp) (by simp)
  replace hd := hide hd
  replace hm := hide hm
  clear hs
  go_enter Try.func36, Try.ntmps36
  go_wp2_with (go_at_call 27; (with_reducible refine hd.out.mono ?_); rintro e w1 ⟨v, rfl, h1⟩)
  go_ret
  exact ⟨v, rfl, Gone.from h1 (hm.out.mono (by simp))⟩

set_option maxHeartbeats 400000 in
theorem clear_some (b : Nat) (l : List T) (aca : Int) (F : Nat → Prop) (w : World) (hl : l.length ≤ 1000) (hs : S w b l aca F) :
    Calls Try.prog 14 #[.pointer (some ⟨b, 0, none⟩)] w fun e w' => ∃ v, e = .returned v ∧ Gone b (l.filter pAll) (l.filter fun t => !pAll t) (-1) F w w' v := by
  obtain ⟨-, -, -, ha, -, hz, -, -, -, -⟩ := hs.at_
  obtain ⟨hs1, hm⟩ := hs.setAca (-1)
  have hd := drop29 b l (-1) F _ hl hs1
  replace hd := hide hd
  replace hm := hide hm
  clear hs hs1
  go_enter Try.func14, Try.ntmps14
  go_wp2_with (go_at_call 27; (with_reducible refine hd.out.mono ?_); rintro e w1 ⟨v, rfl, h1⟩)
  go_ret
  exact ⟨v, rfl, Gone.from h1 hm.out⟩

set_option maxHeartbeats 400000 in
theorem relieve_some (b : Nat) (l : List T) (aca : Int) (F : Nat → Prop) (w : World) (hl : l.length ≤ 1000) (hs : S w b l aca F) (hac : 0 ≤ aca) :
    Calls Try.prog 21 #[.pointer (some ⟨b, 0, none⟩)] w fun e w' => ∃ v, e = .returned v ∧ Gone b (l.filter pAca) (l.filter fun t => !pAca t) (-1) F w w' v := by
  obtain ⟨-, -, -, ha, -, hz, -, -, -, -⟩ := hs.at_
  obtain ⟨hs1, hm⟩ := hs.setAca (-1)
  have hd := drop32 b l (-1) F _ hl hs1
  have hd0 : decide (aca < 0) = false := by simp; omega
  replace hd := hide hd
  replace hm := hide hm
  clear hs hs1
  go_enter Try.func21, Try.ntmps21
  go_wp2_with (go_at_call 27; (with_reducible refine hd.out.mono ?_); rintro e w1 ⟨v, rfl, h1⟩)
  go_ret
  exact ⟨v, rfl, Gone.from h1 hm.out⟩
set_option maxHeartbeats 400000 in
theorem relieve_no (b : Nat) (l : List T) (aca : Int) (F : Nat → Prop) (w : World) (hs : S w b l aca F) (hac : aca < 0) :
    Calls Try.prog 21 #[.pointer (some ⟨b, 0, none⟩)] w fun e w' => e = .returned (.slice none 0 0) ∧ w = w' := by
  obtain ⟨-, -, -, ha, -, -, -, -, -, -⟩ := hs.at_
  have hd0 : decide (aca < 0) = true := by simpa using hac
  clear hs
  go_enter Try.func21, Try.ntmps21
  go_wp2
  go_ret
  exact ⟨rfl, rfl⟩

set_option maxHeartbeats 400000 in
theorem stands_some (b : Nat) (l : List T) (aca : Int) (F : Nat → Prop) (w : World) (hs : S w b l aca F) :
    Calls Try.prog 20 #[.pointer (some ⟨b, 0, none⟩)] w fun e w' => e = .returned (.int .i64 aca) ∧ w = w' := by
  obtain ⟨-, -, -, ha, -, -, -, -, -, -⟩ := hs.at_
  clear hs
  go_enter Try.func20, Try.ntmps20
  go_wp2
  go_ret
  exact ⟨rfl, rfl⟩

/-- What Establish answers, and for whom an allegiance stands then. -/
def est (aca n : Int) : Int × Int := if n < 0 ∨ 8 ≤ n then (1, aca) else if 0 ≤ aca then (12, aca) else (0, n)
set_option maxHeartbeats 400000 in
theorem establish_some (b : Nat) (n : Int) (l : List T) (aca : Int) (F : Nat → Prop) (w : World) (hs : S w b l aca F) :
    Calls Try.prog 19 #[.pointer (some ⟨b, 0, none⟩), .int .i64 n] w fun e w' => e = .returned (.int .i64 (est aca n).1) ∧ S w' b l (est aca n).2 F ∧ Mod F w w' := by
  obtain ⟨-, -, -, ha, -, hz, -, -, -, -⟩ := hs.at_
  by_cases h1 : n < 0
  · have d1 : decide (n < 0) = true := by simpa using h1
    rw [est, if_pos (.inl h1)]
    replace hs := hide hs
    go_enter Try.func19, Try.ntmps19
    go_wp2
    go_ret
    exact ⟨rfl, hs.out, Mod.refl _ _⟩
  · have d1 : decide (n < 0) = false := by simpa using h1
    by_cases h2 : 8 ≤ n
    · have d2 : decide (8 ≤ n) = true := by simpa using h2
      rw [est, if_pos (.inr h2)]
      replace hs := hide hs
      go_enter Try.func19, Try.ntmps19
      go_wp2
      go_ret
      exact ⟨rfl, hs.out, Mod.refl _ _⟩
    · have d2 : decide (8 ≤ n) = false := by simpa using h2
      rw [est, if_neg (by omega)]
      by_cases h3 : 0 ≤ aca
      · have d3 : decide (0 ≤ aca) = true := by simpa using h3
        rw [if_pos h3]
        replace hs := hide hs
        go_enter Try.func19, Try.ntmps19
        go_wp2
        go_ret
        exact ⟨rfl, hs.out, Mod.refl _ _⟩
      · have d3 : decide (0 ≤ aca) = false := by simpa using h3
        rw [if_neg h3]
        have hs1 := hs.setAca n
        replace hs1 := hide hs1
        clear hs
        go_enter Try.func19, Try.ntmps19
        go_wp2
        go_ret
        exact ⟨rfl, hs1.out⟩

theorem flat_st (l : List T) : ∀ (i : Nat) (x : Bool), i < l.length → (l.flatMap enc).set (i * 4 + 3) (.bool x) = (l.set i { gi l i with st := x }).flatMap enc := by
  induction l with
  | nil => intro i x hi; simp at hi
  | cons a l ih =>
    intro i x hi
    cases i with
    | zero => simp [List.flatMap_cons, enc, gi]
    | succ i =>
      have h := ih i x (by simpa using hi)
      have e : (i + 1) * 4 + 3 = (i * 4 + 3) + 4 := by omega
      rw [e]
      simp only [List.flatMap_cons, List.set_cons_succ, enc, List.cons_append, List.nil_append]
      rw [h]
      simp [gi]
theorem Row.st {w : World} {g n c : Nat} {l : List T} (h : Row w 26 4 enc (.slice (some ⟨g, 0, none⟩) n c) l) (i : Nat) (hi : i < l.length) (x : Bool) :
    Row (w.setCell ⟨g, i * 4 + 3, none⟩ (.bool x)) 26 4 enc (.slice (some ⟨g, 0, none⟩) n c) (l.set i { gi l i with st := x }) := by
  have hn : l.length = n := (h.rd enc_len rfl).1
  subst hn
  have hs := World.ownsRow.stored (w := w) h (i * 4 + 3) (.bool x)
  rw [flat_st l i x hi] at hs
  unfold Row
  rw [List.length_set]
  exact hs.1
/-- One task is marked. -/
theorem S.mark {w : World} {b g n c : Nat} {l : List T} {aca : Int} {F : Nat → Prop} (h : S w b l aca F) (hc : w.cell? ⟨b, 0, none⟩ = some (.slice (some ⟨g, 0, none⟩) n c)) (i : Nat) (hi : i < l.length) (x : Bool) :
    S (w.setCell ⟨g, i * 4 + 3, none⟩ (.bool x)) b (l.set i { gi l i with st := x }) aca F ∧ Mod F w (w.setCell ⟨g, i * 4 + 3, none⟩ (.bool x)) := by
  obtain ⟨v, h1, h2, h3, h4⟩ := h
  have hv : v = .slice (some ⟨g, 0, none⟩) n c := by
    rw [cell_of_row w b _ _ 59 (0, 0) h1] at hc
    exact Option.some.inj hc
  subst hv
  have hgb : g ≠ b := fun e => h3.ne h1 (by decide) (by rw [← e]; rfl)
  have hset : Mod (fun k => k = g) w (w.setCell ⟨g, i * 4 + 3, none⟩ (.bool x)) := (Mod.refl (fun k => k = g) w).setCell (p := ⟨g, i * 4 + 3, none⟩) (.inl rfl) _
  exact ⟨⟨_, hset.heap h1 (fun e => hgb e.symm), h2, h3.st i hi x, h4⟩, (Mod.refl F w).setCell (p := ⟨g, i * 4 + 3, none⟩) (.inl (h4 g rfl)) _⟩

theorem mark_facts {w W : World} {b g n c : Nat} {l : List T} (hm : Mod (fun _ => False) w W) (hc : w.cell? ⟨b, 0, none⟩ = some (.slice (some ⟨g, 0, none⟩) n c)) (h : Row w 26 4 enc (.slice (some ⟨g, 0, none⟩) n c) l) (k : Nat) (hk : k < l.length) :
    W.cell? ⟨b, 0, none⟩ = some (.slice (some ⟨g, 0, none⟩) n c) ∧ W.cell? ⟨g, k * 4 + 3, none⟩ = some (.bool (gi l k).st) ∧ W.frozen? ⟨g, k * 4 + 3, none⟩ = false := by
  have h4 := h.mod hm (by simp)
  have hn : l.length = n := (h.rd enc_len rfl).1
  subst hn
  obtain ⟨ad, e, hst⟩ := (h4.rd enc_len rfl).elem k hk
  obtain rfl := Option.some.inj e
  have h3 := hst 3 _ rfl
  have ea : ((⟨g, 0, none⟩ : Addr).add (k * 4)).add 3 = ⟨g, k * 4 + 3, none⟩ := by rw [addr_add]; simp [Addr.add]
  rw [ea] at h3
  exact ⟨hm.cell hc (by simp), h3, World.ownsRow.frozenAt (w := W) h4 (k * 4 + 3)⟩

/-- What Start answers, and what it makes of the tasks. -/
def sta (l : List T) (aca nx tag : Int) : Int × List T :=
  if fnd l nx tag < 0 then (8, l) else if mayB l aca (fnd l nx tag).toNat then (0, l.set (fnd l nx tag).toNat { gi l (fnd l nx tag).toNat with st := true }) else (12, l)

set_option maxHeartbeats 1000000 in
theorem start_some (b : Nat) (nx tag : Int) (l : List T) (aca : Int) (F : Nat → Prop) (w : World) (hl : l.length ≤ 1000) (hs : S w b l aca F) :
    Calls Try.prog 17 #[.pointer (some ⟨b, 0, none⟩), .int .i64 nx, .int .u32 tag] w fun e w' => e = .returned (.int .i64 (sta l aca nx tag).1) ∧ S w' b (sta l aca nx tag).2 aca (Plus F w w') ∧ Mod F w w' := by
  have hf := find_some b nx tag l aca F w hl hs
  rcases fnd_cases l nx tag with ⟨k, hk, hfk, -, -⟩ | ⟨hfk, -⟩
  · rw [hfk] at hf
    have hneg : ¬ fnd l nx tag < 0 := by omega
    have hto : (fnd l nx tag).toNat = k := by omega
    rw [sta, if_neg hneg, hto]
    clear hneg hto hfk
    have hmay : ∀ W, Mod (fun _ => False) w W → _ := fun W hm => may_some b k l aca F W hl hk (hs.mod hm (by simp))
    obtain ⟨r, hres⟩ : ∃ r, r = mayB l aca k := ⟨_, rfl⟩
    rw [← hres] at hmay ⊢
    clear hres
    obtain ⟨A, cap, hc, -, hz, -, -, hrow, -, -⟩ := hs.at_
    obtain ⟨g, c0, hv, -⟩ := hrow.some_ (by omega)
    obtain rfl : A = some ⟨g, 0, none⟩ := by injection hv
    clear hv c0
    replace hrow := hide hrow
    replace hf := hide hf
    replace hmay := hide hmay
    replace hs := hide hs
    cases r
    · rw [if_neg (by decide)]
      go_enter Try.func17, Try.ntmps17
      go_wp2_with (first
        | (go_at_call 26; (with_reducible refine hf.out.mono ?_); rintro e w1 ⟨rfl, m1⟩; replace m1 := hide m1)
        | (go_at_call 30; (with_reducible refine (hmay.out _ m1.out).mono ?_); rintro e w2 ⟨rfl, m2⟩))
      go_ret
      exact ⟨rfl, hs.out.plus (m1.out.trans m2 (by simp))⟩
    · rw [if_pos rfl]
      go_enter Try.func17, Try.ntmps17
      go_wp2_with (first
        | (go_at_call 26; (with_reducible refine hf.out.mono ?_); rintro e w1 ⟨rfl, m1⟩; replace m1 := hide m1)
        | (go_at_call 30; (with_reducible refine (hmay.out _ m1.out).mono ?_); rintro e w2 ⟨rfl, m2⟩; have m12 := hide (m1.out.trans m2 (by simp)); obtain ⟨hc2, hs2, hz2⟩ := mark_facts m12.out hc hrow.out k hk; replace m2 := hide m2))
      go_ret
      obtain ⟨q1, q2⟩ := (hs.out.mod m12.out (by simp)).mark hc2 k hk true
      exact ⟨rfl, q1.mono fun _ hk => .inl hk, (m12.out.mono (by simp)).trans q2 fun _ _ h => h⟩
  · rw [hfk] at hf
    rw [sta, if_pos (by omega)]
    clear hfk
    replace hf := hide hf
    replace hs := hide hs
    go_enter Try.func17, Try.ntmps17
    go_wp2_with (go_at_call 26; (with_reducible refine hf.out.mono ?_); rintro e w1 ⟨rfl, m1⟩)
    go_ret
    exact ⟨rfl, hs.out.plus m1⟩

/-- What End answers, and what it makes of the tasks. -/
def fin (l : List T) (nx tag : Int) : Int × List T :=
  if fnd l nx tag < 0 then (8, l) else if (gi l (fnd l nx tag).toNat).st then (0, l.filter fun t => !hit nx tag t) else (12, l)

set_option maxHeartbeats 1000000 in
theorem end_some (b : Nat) (nx tag : Int) (l : List T) (aca : Int) (F : Nat → Prop) (w : World) (hl : l.length ≤ 1000) (hs : S w b l aca F) :
    Calls Try.prog 18 #[.pointer (some ⟨b, 0, none⟩), .int .i64 nx, .int .u32 tag] w fun e w' => e = .returned (.int .i64 (fin l nx tag).1) ∧ S w' b (fin l nx tag).2 aca (Plus F w w') ∧ Mod F w w' := by
  have hm : Mod (fun _ => False) w ((w.alloc (.cells #[.int .i64 nx] 3)).alloc (.cells #[.int .u32 tag] 23)) := ((Mod.refl _ w).alloc _).alloc _
  have c0 : ((w.alloc (.cells #[.int .i64 nx] 3)).alloc (.cells #[.int .u32 tag] 23)).cell? ⟨w.heap.size, 0, none⟩ = some (.int .i64 nx) := by simp
  have c1 : ((w.alloc (.cells #[.int .i64 nx] 3)).alloc (.cells #[.int .u32 tag] 23)).cell? ⟨w.heap.size + 1, 0, none⟩ = some (.int .u32 tag) := by simp
  generalize hW : (w.alloc (.cells #[.int .i64 nx] 3)).alloc (.cells #[.int .u32 tag] 23) = W at *
  have hf := find_some b nx tag l aca F W hl (hs.mod hm (by simp))
  rcases fnd_cases l nx tag with ⟨k, hk, hfk, -, -⟩ | ⟨hfk, -⟩
  · rw [hfk] at hf
    have hneg : ¬ fnd l nx tag < 0 := by omega
    have hto : (fnd l nx tag).toNat = k := by omega
    rw [fin, if_neg hneg, hto]
    clear hneg hto hfk
    have hd : ∀ W', Mod (fun _ => False) W W' → _ := fun W' hm' => drop31 b l aca F W' hl (hs.mod (hm.trans hm' (by simp)) (by simp)) ⟨w.heap.size, 0, none⟩ ⟨w.heap.size + 1, 0, none⟩ nx tag (hm'.cell c0 (by simp)) (hm'.cell c1 (by simp))
    obtain ⟨A, cap, hc, -, hz, -, -, hrow, -, -⟩ := hs.at_
    obtain ⟨g, c2, hv, -⟩ := hrow.some_ (by omega)
    obtain rfl : A = some ⟨g, 0, none⟩ := by injection hv
    clear hv c2
    obtain ⟨r, hres⟩ : ∃ r, r = (gi l k).st := ⟨_, rfl⟩
    have hfacts : ∀ W', Mod (fun _ => False) W W' → W'.cell? ⟨b, 0, none⟩ = some (.slice (some ⟨g, 0, none⟩) l.length cap) ∧ W'.cell? ⟨g, k * 4 + 3, none⟩ = some (.bool r) := fun W' hm' => by
      obtain ⟨q1, q2, -⟩ := mark_facts (hm.trans hm' (by simp)) hc hrow k hk
      rw [hres]
      exact ⟨q1, q2⟩
    rw [← hres]
    clear hres
    replace hrow := hide hrow
    replace hf := hide hf
    replace hd := hide hd
    replace hs := hide hs
    replace hfacts := hide hfacts
    replace hm := hide hm
    replace hW := hide hW
    cases r
    · rw [if_neg (by decide)]
      go_enter Try.func18, Try.ntmps18
      go_wp2_with (first
        | (go_at_call 26; rw [hW.out]; (with_reducible refine hf.out.mono ?_); rintro e w1 ⟨rfl, m1⟩; obtain ⟨q1, q2⟩ := hfacts.out _ m1; replace m1 := hide m1))
      go_ret
      exact ⟨rfl, hs.out.plus (hm.out.trans m1.out (by simp))⟩
    · rw [if_pos rfl]
      go_enter Try.func18, Try.ntmps18
      go_wp2_with (first
        | (go_at_call 26; rw [hW.out]; (with_reducible refine hf.out.mono ?_); rintro e w1 ⟨rfl, m1⟩; obtain ⟨q1, q2⟩ := hfacts.out _ m1; replace m1 := hide m1)
        | (go_at_call 27; (with_reducible refine (hd.out _ m1.out).mono ?_); rintro e w2 ⟨v, rfl, h1⟩))
      go_ret
      obtain ⟨-, h2, h3, -⟩ := Gone.from h1 ((hm.out.trans m1.out (by simp)).mono (by simp))
      exact ⟨rfl, h2.mono fun j hj => by
        rcases hj with hj | ⟨hj, hj2, _⟩
        · exact .inl hj
        · exact .inr ⟨hj, hj2⟩, h3⟩
  · rw [hfk] at hf
    rw [fin, if_pos (by omega)]
    clear hfk
    replace hf := hide hf
    replace hs := hide hs
    replace hm := hide hm
    replace hW := hide hW
    go_enter Try.func18, Try.ntmps18
    go_wp2_with (go_at_call 26; rw [hW.out]; (with_reducible refine hf.out.mono ?_); rintro e w1 ⟨rfl, m1⟩)
    go_ret
    exact ⟨rfl, hs.out.plus (hm.out.trans m1 (by simp))⟩

/-! ### A nil set -/
theorem ready_nil (w : World) : Calls Try.prog 16 #[.pointer none] w fun e w' => e = .returned (.slice none 0 0) ∧ w = w' := by
  go_enter Try.func16, Try.ntmps16
  go_wp2
  go_ret
  exact ⟨rfl, rfl⟩
theorem start_nil (nx tag : Int) (w : World) : Calls Try.prog 17 #[.pointer none, .int .i64 nx, .int .u32 tag] w fun e w' => e = .returned (.int .i64 8) ∧ w = w' := by
  go_enter Try.func17, Try.ntmps17
  go_wp2
  go_ret
  exact ⟨rfl, rfl⟩
theorem end_nil (nx tag : Int) (w : World) : Calls Try.prog 18 #[.pointer none, .int .i64 nx, .int .u32 tag] w fun e w' => e = .returned (.int .i64 8) ∧ Mod (fun _ => False) w w' := by
  go_enter Try.func18, Try.ntmps18
  go_wp2
  go_ret
  exact ⟨rfl, ((Mod.refl _ w).alloc _).alloc _⟩
theorem clear_nil (w : World) : Calls Try.prog 14 #[.pointer none] w fun e w' => e = .returned (.slice none 0 0) ∧ w = w' := by
  go_enter Try.func14, Try.ntmps14
  go_wp2
  go_ret
  exact ⟨rfl, rfl⟩
theorem stands_nil (w : World) : Calls Try.prog 20 #[.pointer none] w fun e w' => e = .returned (.int .i64 (-1)) ∧ w = w' := by
  go_enter Try.func20, Try.ntmps20
  go_wp2
  go_ret
  exact ⟨rfl, rfl⟩
theorem establish_nil (n : Int) (w : World) : Calls Try.prog 19 #[.pointer none, .int .i64 n] w fun e w' => e = .returned (.int .i64 8) ∧ w = w' := by
  go_enter Try.func19, Try.ntmps19
  go_wp2
  go_ret
  exact ⟨rfl, rfl⟩
end Go.Proofs.Ytabkplmpkdbchaa
