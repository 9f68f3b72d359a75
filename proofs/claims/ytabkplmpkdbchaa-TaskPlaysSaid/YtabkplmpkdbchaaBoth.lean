/-
  The program's set and the document's side by side: same and both keep them alike. Conditions: both hold the same tasks, at most sixteen, in memory apart.
-/
import Derived.Test.YtabkplmpkdbchaaROps
namespace Go.Proofs.Ytabkplmpkdbchaa
open Go.RowKit

/-- What is true of each list of tasks that comes up. -/
def Okl (l : List T) : Prop := l.length ≤ 16 ∧ ∀ t ∈ l, 0 ≤ t.at_ ∧ t.at_ ≤ 255

set_option maxRecDepth 100000 in
set_option maxHeartbeats 2000000 in
theorem same_yes (A A2 : Option Addr) (n c c2 : Nat) (l : List T) (w : World) (h1 : Rd w 4 enc A n l) (h2 : Rd w 4 encR A2 n l) (hb : ∀ t ∈ l, 0 ≤ t.at_ ∧ t.at_ ≤ 255) (hn : n ≤ 1000) :
    Calls Try.prog 24 #[.slice A n c, .slice A2 n c2] w fun e w' => e = .returned (.bool true) ∧ Mod (fun _ => False) w w' := by
  replace h1 := hide h1
  replace h2 := hide h2
  replace hb := hide hb
  go_enter Try.func24, Try.ntmps24
  go_wp2_with fail
  go_loopw [5] (fun u wr => ∃ k : Nat, k ≤ n ∧ u = .int .i64 k ∧ Hid (Mod (fun _ => False) w wr)) (fun u _ => n - (intOf u).toNat)
  case atStart => exact ⟨0, by omega, rfl, hide (Mod.refl _ _)⟩
  case round =>
    obtain ⟨k, hk, rfl, hR⟩ := hrel
    by_cases hlt : k < n
    · obtain ⟨ad, rfl, ha⟩ := (h1.out.mod hR.out (by simp)).2 k hlt
      obtain ⟨bd, rfl, hbc⟩ := (h2.out.mod hR.out (by simp)).2 k hlt
      have hbt := hb.out (gi l k) (by rw [gi_eq l k (by rw [h1.out.1]; exact hlt)]; exact List.getElem_mem _)
      obtain ⟨t, ht⟩ : ∃ t, t = gi l k := ⟨_, rfl⟩
      rw [← ht] at ha hbc hbt
      clear ht
      obtain ⟨b1, b2⟩ := hbt
      obtain ⟨nx, tag, at_, st⟩ := t
      dsimp only at b1 b2
      have p0 : wr.cell? (ad.add (k * 4)) = _ := ha 0 _ rfl
      have p1 := fld (ha 1 _ rfl) (by decide)
      have p2 := fld (ha 2 _ rfl) (by decide)
      have p3 := fld (ha 3 _ rfl) (by decide)
      have q0 : wr.cell? (bd.add (k * 4)) = _ := hbc 0 _ rfl
      have q1 := fld (hbc 1 _ rfl) (by decide)
      have q2 := fld (hbc 2 _ rfl) (by decide)
      have q3 := fld (hbc 3 _ rfl) (by decide)
      clear ha hbc
      have e1 : IntKind.i64.wrap at_ = at_ := IntWalk.i64_in _ (by omega)
      go_wp2_with fail
      go_quiet (fail)
      go_wp2_with fail
      go_roundw
      case rel => exact ⟨k + 1, by omega, by go_num, hide (hR.out.drewN _)⟩
      case measure => simp [intOf]; omega
    · obtain rfl : k = n := by omega
      go_wp2_with fail
      go_ret
      exact ⟨rfl, hR.out⟩

/-- Both in one world W: the program's at b holds l, the document's at c holds m; all of it lies from B on, apart, and apart from E. -/
def PT (B : Nat) (E : Nat → Prop) (b c : Nat) (w W : World) (l : List T) (a : Int) (m : List T) (a2 : Int) : Prop :=
  ∃ F G : Nat → Prop, S W b l a F ∧ RS W c m a2 G ∧ (∀ k, F k → ¬ G k) ∧ (∀ k, F k → B ≤ k ∧ k < W.heap.size ∧ ¬ E k) ∧ (∀ k, G k → B ≤ k ∧ k < W.heap.size ∧ ¬ E k) ∧ (∀ k, E k → k < W.heap.size) ∧ Below B w W ∧ B ≤ W.heap.size

section
variable {B : Nat} {E : Nat → Prop} {b c : Nat} {w W : World} {l l' m m' g : List T} {a a' a2 a3 : Int}
theorem PT.below (h : PT B E b c w W l a m a2) : Below B w W := by obtain ⟨_, _, _, _, _, _, _, _, h, _⟩ := h; exact h
theorem PT.less (h : PT B E b c w W l a m a2) {E' : Nat → Prop} (hE : ∀ k, E' k → E k) : PT B E' b c w W l a m a2 := by
  obtain ⟨F, G, hs, hr, hd, hF, hG, hE2, hb, hB⟩ := h
  exact ⟨F, G, hs, hr, hd, fun k hk => ⟨(hF k hk).1, (hF k hk).2.1, fun he => (hF k hk).2.2 (hE k he)⟩, fun k hk => ⟨(hG k hk).1, (hG k hk).2.1, fun he => (hG k hk).2.2 (hE k he)⟩, fun k hk => hE2 k (hE k hk), hb, hB⟩
theorem PT.quiet (h : PT B E b c w W l a m a2) {W' : World} (hm : Mod (fun _ => False) W W') : PT B E b c w W' l a m a2 := by
  obtain ⟨F, G, hs, hr, hd, hF, hG, hE, hb, hB⟩ := h
  exact ⟨F, G, hs.mod hm (by simp), hr.mod hm (by simp), hd, fun k hk => ⟨(hF k hk).1, Nat.lt_of_lt_of_le (hF k hk).2.1 hm.size, (hF k hk).2.2⟩, fun k hk => ⟨(hG k hk).1, Nat.lt_of_lt_of_le (hG k hk).2.1 hm.size, (hG k hk).2.2⟩,
    fun k hk => Nat.lt_of_lt_of_le (hE k hk) hm.size, hb.trans (hm.below hB (by simp)), Nat.le_trans hB hm.size⟩
/-- A fresh row is put beside. -/
theorem PT.fresh (h : PT B E b c w W l a m a2) {W' : World} (hm : Mod (fun _ => False) W W') {v : Value} (hv : ∀ k, v.ownBlock = some k → W.heap.size ≤ k ∧ k < W'.heap.size) : PT B (fun k => E k ∨ v.ownBlock = some k) b c w W' l a m a2 := by
  obtain ⟨F, G, hs, hr, hd, hF, hG, hE, hb, hB⟩ := h
  refine ⟨F, G, hs.mod hm (by simp), hr.mod hm (by simp), hd, fun k hk => ⟨(hF k hk).1, Nat.lt_of_lt_of_le (hF k hk).2.1 hm.size, ?_⟩, fun k hk => ⟨(hG k hk).1, Nat.lt_of_lt_of_le (hG k hk).2.1 hm.size, ?_⟩, ?_, hb.trans (hm.below hB (by simp)), Nat.le_trans hB hm.size⟩
  · rintro (he | he)
    · exact (hF k hk).2.2 he
    · have := hv k he; have := (hF k hk).2.1; omega
  · rintro (he | he)
    · exact (hG k hk).2.2 he
    · have := hv k he; have := (hG k hk).2.1; omega
  · rintro k (he | he)
    · exact Nat.lt_of_lt_of_le (hE k he) hm.size
    · exact (hv k he).2
theorem PT.stepS (h : PT B E b c w W l a m a2) {f : FuncId} {args : Array Value} {P : Ending → Prop}
    (hc : ∀ F, S W b l a F → Calls Try.prog f args W fun e W' => P e ∧ S W' b l' a' (Plus F W W') ∧ Mod F W W') : Calls Try.prog f args W fun e W' => P e ∧ PT B E b c w W' l' a' m a2 ∧ Mod (fun k => ¬ E k) W W' := by
  obtain ⟨F, G, hs, hr, hd, hF, hG, hE, hb, hB⟩ := h
  refine (hc F hs).mono fun e W' ⟨he, h1, h2⟩ => ⟨he, ⟨_, G, h1, hr.mod h2 fun k hk hf => hd k hf hk, ?_, ?_, fun k hk => ⟨(hG k hk).1, Nat.lt_of_lt_of_le (hG k hk).2.1 h2.size, (hG k hk).2.2⟩, fun k hk => Nat.lt_of_lt_of_le (hE k hk) h2.size, hb.trans (h2.below hB fun k hk => (hF k hk).1), Nat.le_trans hB h2.size⟩, h2.mono fun k _ hk => (hF k hk).2.2⟩
  · rintro k (hk | ⟨hk, _⟩) hg
    · exact hd k hk hg
    · have := (hG k hg).2.1; omega
  · rintro k (hk | ⟨hk, hk'⟩)
    · exact ⟨(hF k hk).1, Nat.lt_of_lt_of_le (hF k hk).2.1 h2.size, (hF k hk).2.2⟩
    · exact ⟨by omega, hk', fun he => by have := hE k he; omega⟩
theorem PT.stepR (h : PT B E b c w W l a m a2) {f : FuncId} {args : Array Value} {P : Ending → Prop}
    (hc : ∀ G, RS W c m a2 G → Calls Try.prog f args W fun e W' => P e ∧ RS W' c m' a3 (Plus G W W') ∧ Mod G W W') : Calls Try.prog f args W fun e W' => P e ∧ PT B E b c w W' l a m' a3 ∧ Mod (fun k => ¬ E k) W W' := by
  obtain ⟨F, G, hs, hr, hd, hF, hG, hE, hb, hB⟩ := h
  refine (hc G hr).mono fun e W' ⟨he, h1, h2⟩ => ⟨he, ⟨F, _, hs.mod h2 fun k hk hg => hd k hk hg, h1, ?_, fun k hk => ⟨(hF k hk).1, Nat.lt_of_lt_of_le (hF k hk).2.1 h2.size, (hF k hk).2.2⟩, ?_, fun k hk => Nat.lt_of_lt_of_le (hE k hk) h2.size, hb.trans (h2.below hB fun k hk => (hG k hk).1), Nat.le_trans hB h2.size⟩, h2.mono fun k _ hk => (hG k hk).2.2⟩
  · rintro k hf (hk | ⟨hk, _⟩)
    · exact hd k hf hk
    · have := (hF k hf).2.1; omega
  · rintro k (hk | ⟨hk, hk'⟩)
    · exact ⟨(hG k hk).1, Nat.lt_of_lt_of_le (hG k hk).2.1 h2.size, (hG k hk).2.2⟩
    · exact ⟨by omega, hk', fun he => by have := hE k he; omega⟩
/-- A call on the program's set that hands back a row. -/
theorem PT.goneS (h : PT B E b c w W l a m a2) {f : FuncId} {args : Array Value}
    (hc : ∀ F, S W b l a F → Calls Try.prog f args W fun e W' => ∃ v, e = .returned v ∧ Gone b g l' a' F W W' v) :
    Calls Try.prog f args W fun e W' => ∃ v, e = .returned v ∧ Row W' 26 4 enc v g ∧ PT B (fun k => E k ∨ v.ownBlock = some k) b c w W' l' a' m a2 ∧ Mod (fun k => ¬ E k) W W' := by
  obtain ⟨F, G, hs, hr, hd, hF, hG, hE, hb, hB⟩ := h
  refine (hc F hs).mono fun e W' ⟨v, he, h1, h2, h3, h4⟩ => ⟨v, he, h1, ⟨_, G, h2, hr.mod h3 fun k hk hf => hd k hf hk, ?_, ?_, fun k hk => ⟨(hG k hk).1, Nat.lt_of_lt_of_le (hG k hk).2.1 h3.size, ?_⟩, ?_, hb.trans (h3.below hB fun k hk => (hF k hk).1), Nat.le_trans hB h3.size⟩, h3.mono fun k _ hk => (hF k hk).2.2⟩
  · rintro k (hk | ⟨hk, _⟩) hg
    · exact hd k hk hg
    · have := (hG k hg).2.1; omega
  · rintro k (hk | ⟨hk, hk', hk''⟩)
    · exact ⟨(hF k hk).1, Nat.lt_of_lt_of_le (hF k hk).2.1 h3.size, fun he => by
        rcases he with he | he
        · exact (hF k hk).2.2 he
        · have := h4 k he; have := (hF k hk).2.1; omega⟩
    · exact ⟨by omega, hk', fun he => by
        rcases he with he | he
        · have := hE k he; omega
        · exact hk'' he⟩
  · rintro (he | he)
    · exact (hG k hk).2.2 he
    · have := h4 k he; have := (hG k hk).2.1; omega
  · rintro k (he | he)
    · exact Nat.lt_of_lt_of_le (hE k he) h3.size
    · exact h1.lt k he
/-- A call on the document's that hands back a row. -/
theorem PT.goneR (h : PT B E b c w W l a m a2) {f : FuncId} {args : Array Value}
    (hc : ∀ G, RS W c m a2 G → Calls Try.prog f args W fun e W' => ∃ v, e = .returned v ∧ Row W' 67 4 encR v g ∧ RS W' c m' a3 (PlusBut G W W' v) ∧ Mod G W W' ∧ ∀ j, v.ownBlock = some j → W.heap.size ≤ j) :
    Calls Try.prog f args W fun e W' => ∃ v, e = .returned v ∧ Row W' 67 4 encR v g ∧ PT B (fun k => E k ∨ v.ownBlock = some k) b c w W' l a m' a3 ∧ Mod (fun k => ¬ E k) W W' := by
  obtain ⟨F, G, hs, hr, hd, hF, hG, hE, hb, hB⟩ := h
  refine (hc G hr).mono fun e W' ⟨v, he, h1, h2, h3, h4⟩ => ⟨v, he, h1, ⟨F, _, hs.mod h3 fun k hk hg => hd k hk hg, h2, ?_, fun k hk => ⟨(hF k hk).1, Nat.lt_of_lt_of_le (hF k hk).2.1 h3.size, ?_⟩, ?_, ?_, hb.trans (h3.below hB fun k hk => (hG k hk).1), Nat.le_trans hB h3.size⟩, h3.mono fun k _ hk => (hG k hk).2.2⟩
  · rintro k hf (hk | ⟨hk, _⟩)
    · exact hd k hf hk
    · have := (hF k hf).2.1; omega
  · rintro (he | he)
    · exact (hF k hk).2.2 he
    · have := h4 k he; have := (hF k hk).2.1; omega
  · rintro k (hk | ⟨hk, hk', hk''⟩)
    · exact ⟨(hG k hk).1, Nat.lt_of_lt_of_le (hG k hk).2.1 h3.size, fun he => by
        rcases he with he | he
        · exact (hG k hk).2.2 he
        · have := h4 k he; have := (hG k hk).2.1; omega⟩
    · exact ⟨by omega, hk', fun he => by
        rcases he with he | he
        · have := hE k he; omega
        · exact hk'' he⟩
  · rintro k (he | he)
    · exact Nat.lt_of_lt_of_le (hE k he) h3.size
    · exact h1.lt k he
/-- What is read of the document's set; and a store of its allegiance. -/
theorem PT.cells (h : PT B E b c w W l a m a2) : ∃ A cap, W.cell? ⟨c, 0, none⟩ = some (.slice A m.length cap) ∧ W.cell? ⟨c, 1, none⟩ = some (.int .i64 a2) ∧ W.frozen? ⟨c, 1, none⟩ = false ∧ Row W 67 4 encR (.slice A m.length cap) m ∧ c < W.heap.size := by
  obtain ⟨F, G, hs, hr, hd, hF, hG, hE, hb, hB⟩ := h
  have hlt := hr.lt
  obtain ⟨A, cap, h1, h2, -, h4, -, h6, -, -⟩ := hr.at_
  exact ⟨A, cap, h1, h2, h4, h6, hlt⟩
theorem PT.setAca (h : PT B E b c w W l a m a2) (x : Int) : PT B E b c w (W.setCell ⟨c, 1, none⟩ (.int .i64 x)) l a m x := by
  obtain ⟨F, G, hs, hr, hd, hF, hG, hE, hb, hB⟩ := h
  obtain ⟨h1, h2⟩ := hr.setAca x
  have hsz : (W.setCell ⟨c, 1, none⟩ (.int .i64 x)).heap.size = W.heap.size := by simp
  exact ⟨F, G, hs.mod h2 fun k hk hg => hd k hk hg, h1, hd, by rw [hsz]; exact hF, by rw [hsz]; exact hG, by rw [hsz]; exact hE, hb.trans (h2.below hB fun k hk => (hG k hk).1), by rw [hsz]; exact hB⟩
end

/-- What comes of an act. -/
def act (l : List T) (a kd n tag at_ : Int) : List T × Int :=
  if kd % 8 = 0 then ((ent l a ⟨n, tag, at_, false⟩).2.2, a) else if kd % 8 = 1 then ((sta l a n tag).2, a) else if kd % 8 = 2 then ((fin l n tag).2, a)
  else if kd % 8 = 3 then (l.filter fun t => !hit n tag t, a) else if kd % 8 = 4 then (l.filter fun t => !pNx n t, a) else if kd % 8 = 5 then ([], -1)
  else if kd % 8 = 6 then (l, (est a n).2) else (if a < 0 then l else l.filter fun t => !pAca t, if a < 0 then a else -1)
theorem filter_ok {l : List T} (h : Okl l) (p : T → Bool) : Okl (l.filter p) := ⟨Nat.le_trans (List.length_filter_le _ _) h.1, fun t ht => h.2 t (List.mem_filter.1 ht).1⟩
theorem act_ok {l : List T} {a kd n tag at_ : Int} (h : Okl l) (hat : 0 ≤ at_) : Okl (act l a kd n tag at_).1 := by
  unfold act
  split
  · show Okl (ent l a ⟨n, tag, at_, false⟩).2.2
    unfold ent
    split
    · exact h
    · rename_i h3
      split
      · exact h
      · split
        · exact h
        · split
          · exact h
          · refine ⟨by simp; omega, fun t ht => ?_⟩
            rw [List.mem_append, List.mem_singleton] at ht
            rcases ht with ht | rfl
            · exact h.2 t ht
            · have : ¬ 3 < at_ := fun e => h3 (.inr (.inr e))
              exact ⟨hat, by show at_ ≤ 255; omega⟩
  · split
    · show Okl (sta l a n tag).2
      unfold sta
      split
      · exact h
      · split
        · refine ⟨by simpa using h.1, fun t ht => ?_⟩
          rename_i h1 _
          rcases List.mem_or_eq_of_mem_set ht with ht | rfl
          · exact h.2 t ht
          · rcases fnd_cases l n tag with ⟨k, hk, hfk, -, -⟩ | ⟨hfk, -⟩
            · rw [hfk]
              show 0 ≤ (gi l (k : Int).toNat).at_ ∧ (gi l (k : Int).toNat).at_ ≤ 255
              rw [Int.toNat_natCast, gi_eq l k hk]
              exact h.2 _ (List.getElem_mem _)
            · omega
        · exact h
    · split
      · show Okl (fin l n tag).2
        unfold fin
        split
        · exact h
        · split
          · exact filter_ok h _
          · exact h
      · split
        · exact filter_ok h _
        · split
          · exact filter_ok h _
          · split
            · exact ⟨by simp, by simp⟩
            · split
              · exact h
              · show Okl (if a < 0 then l else l.filter fun t => !pAca t)
                split
                · exact h
                · exact filter_ok h _
theorem ent_st (l : List T) (a n tag at_ : Int) (x : Bool) : ent l a ⟨n, tag, at_, x⟩ = ent l a ⟨n, tag, at_, false⟩ := rfl
theorem ent_bound (l : List T) (a : Int) (t : T) : 0 ≤ (ent l a t).1 ∧ (ent l a t).1 ≤ 48 := by
  unfold ent
  split
  · simp
  · split
    · simp
    · split
      · simp
      · split
        · simp
        · simp
end Go.Proofs.Ytabkplmpkdbchaa
