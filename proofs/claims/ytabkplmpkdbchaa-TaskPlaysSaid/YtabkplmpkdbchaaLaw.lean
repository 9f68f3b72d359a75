/-
  The set's calls as the laws use them: each set in a footprint of its own, each row beside it. Conditions: as stated.
-/
import Derived.Test.YtabkplmpkdbchaaFill
import Derived.Test.YtabkplmpkdbchaaOpen
import Derived.Test.YtabkplmpkdbchaaEq
namespace Go.Proofs.Ytabkplmpkdbchaa
open Go.RowKit

/-- The set at block b with tasks l; all of it lies in F, at B or behind, in memory that is there. -/
def SL (B : Nat) (w : World) (b : Nat) (l : List T) (aca : Int) (F : Nat → Prop) : Prop := S w b l aca F ∧ (∀ k, F k → B ≤ k ∧ k < w.heap.size) ∧ B ≤ w.heap.size
/-- A row beside F. -/
def RO (F : Nat → Prop) (w : World) (v : Value) (l : List T) : Prop := Row w 26 4 enc v l ∧ ∀ k, v.ownBlock = some k → ¬ F k
/-- What a call on the set in F has turned, whose set lies in F' behind it. -/
def Nxt (B : Nat) (F F' : Nat → Prop) (w w' : World) : Prop := Mod F w w' ∧ Below B w w' ∧ ∀ k, k < w.heap.size → F' k → F k

theorem RO.nxt {B : Nat} {F F' : Nat → Prop} {w w' : World} {v : Value} {l : List T} (h : RO F w v l) (hn : Nxt B F F' w w') : RO F' w' v l :=
  ⟨h.1.mod hn.1 h.2, fun k hk hf => h.2 k hk (hn.2.2 k (h.1.lt k hk) hf)⟩
theorem Nxt.trans {B : Nat} {F F' F'' : Nat → Prop} {a b c : World} (h : Nxt B F F' a b) (k : Nxt B F' F'' b c) : Nxt B F F'' a c :=
  ⟨h.1.trans k.1 h.2.2, h.2.1.trans k.2.1, fun i hi hf => h.2.2 i hi (k.2.2 i (Nat.lt_of_lt_of_le hi h.1.size) hf)⟩
theorem SL.plus {B : Nat} {F : Nat → Prop} {w w' : World} {b : Nat} {l m : List T} {aca aca2 : Int} (h : SL B w b l aca F) (hs : S w' b m aca2 (Plus F w w')) (hm : Mod F w w') :
    SL B w' b m aca2 (Plus F w w') ∧ Nxt B F (Plus F w w') w w' :=
  ⟨⟨hs, fun k hk => (by
    rcases hk with hk | ⟨h1, h2⟩
    · exact ⟨(h.2.1 k hk).1, Nat.lt_of_lt_of_le (h.2.1 k hk).2 hm.size⟩
    · exact ⟨Nat.le_trans h.2.2 h1, h2⟩), Nat.le_trans h.2.2 hm.size⟩, hm, hm.below h.2.2 fun k hk => (h.2.1 k hk).1, fun k hk hf => (by
    rcases hf with hf | ⟨h1, _⟩
    · exact hf
    · omega)⟩
theorem SL.same {B : Nat} {F : Nat → Prop} {w w' : World} {b : Nat} {l m : List T} {aca aca2 : Int} (h : SL B w b l aca F) (hs : S w' b m aca2 F) (hm : Mod F w w') :
    SL B w' b m aca2 F ∧ Nxt B F F w w' :=
  ⟨⟨hs, fun k hk => ⟨(h.2.1 k hk).1, Nat.lt_of_lt_of_le (h.2.1 k hk).2 hm.size⟩, Nat.le_trans h.2.2 hm.size⟩, hm, hm.below h.2.2 fun k hk => (h.2.1 k hk).1, fun _ _ h => h⟩
theorem SL.quiet {B : Nat} {F : Nat → Prop} {w w' : World} {b : Nat} {l : List T} {aca : Int} (h : SL B w b l aca F) (hm : Mod (fun _ => False) w w') : SL B w' b l aca F ∧ Nxt B F F w w' :=
  h.same (h.1.mod hm (by simp)) (hm.mono fun _ _ h => h.elim)
theorem SL.gone {B : Nat} {F : Nat → Prop} {w w' : World} {b : Nat} {l g m : List T} {aca aca2 : Int} {v : Value} (h : SL B w b l aca F) (hg : Gone b g m aca2 F w w' v) :
    ∃ F', SL B w' b m aca2 F' ∧ Nxt B F F' w w' ∧ RO F' w' v g ∧ ∀ k, v.ownBlock = some k → w.heap.size ≤ k :=
  ⟨PlusBut F w w' v, ⟨hg.2.1, fun k hk => (by
    rcases hk with hk | ⟨h1, h2, _⟩
    · exact ⟨(h.2.1 k hk).1, Nat.lt_of_lt_of_le (h.2.1 k hk).2 hg.2.2.1.size⟩
    · exact ⟨Nat.le_trans h.2.2 h1, h2⟩), Nat.le_trans h.2.2 hg.2.2.1.size⟩, ⟨hg.2.2.1, hg.2.2.1.below h.2.2 fun k hk => (h.2.1 k hk).1, fun k hk hf => (by
    rcases hf with hf | ⟨h1, _⟩
    · exact hf
    · omega)⟩, ⟨hg.1, fun k hk hf => (by
    rcases hf with hf | ⟨_, _, h3⟩
    · have := (h.2.1 k hf).2
      have := hg.2.2.2 k hk
      omega
    · exact h3 hk)⟩, hg.2.2.2⟩
theorem RO.slice {F : Nat → Prop} {w : World} {v : Value} {l : List T} (h : RO F w v l) : ∃ A c, v = .slice A l.length c := by
  obtain ⟨A, c, e, _⟩ := h.1.slice
  exact ⟨A, c, e⟩

theorem fill_law (A : Option Addr) (len cap : Nat) (attrs : List Int) (w : World) (hr : Rd w 1 (ic .u8) A len attrs) (hb : ∀ a ∈ attrs, 0 ≤ a ∧ a ≤ 255) (B : Nat) (hB : B ≤ w.heap.size) :
    Calls Try.prog 10 #[.slice A len cap] w fun e w' => ∃ b F, e = .returned (.pointer (some ⟨b, 0, none⟩)) ∧ SL B w' b (fillL attrs (min len 16)) (-1) F ∧ Below B w w' :=
  (fill_any A len cap attrs w hr hb).mono fun e w' ⟨b, he, hs, hbl⟩ => by
    have hlt : ∀ k, (w.heap.size ≤ k ∧ k < w'.heap.size) → B ≤ k ∧ k < w'.heap.size := fun k hk => ⟨Nat.le_trans hB hk.1, hk.2⟩
    refine ⟨b, fun k => w.heap.size ≤ k ∧ k < w'.heap.size, he, ⟨?_, hlt, Nat.le_trans hB hbl.size⟩, (Mod.ofBelow (F := fun _ => False) hbl).below hB (by simp)⟩
    have hbl2 := hs.lt
    obtain ⟨v, h1, h2, h3, h4⟩ := hs
    exact ⟨v, h1, ⟨h2, hbl2⟩, h3, fun k hk => ⟨h4 k hk, h3.lt k hk⟩⟩
theorem tasks_law (B b : Nat) (l : List T) (aca : Int) (F : Nat → Prop) (w : World) (hl : l.length ≤ 1000) (hs : SL B w b l aca F) :
    Calls Try.prog 11 #[.pointer (some ⟨b, 0, none⟩)] w fun e w' => ∃ v, e = .returned v ∧ RO F w' v l ∧ SL B w' b l aca F ∧ Nxt B F F w w' :=
  (tasks_some b l aca F w hl hs.1).mono fun e w' ⟨v, he, hr, hm, ho⟩ => by
    obtain ⟨h1, h2⟩ := hs.quiet hm
    exact ⟨v, he, ⟨hr, fun k hk hf => by have := ho k hk; have := (hs.2.1 k hf).2; omega⟩, h1, h2⟩
theorem abortAll_law (B b : Nat) (nx : Int) (l : List T) (aca : Int) (F : Nat → Prop) (w : World) (hl : l.length ≤ 1000) (hs : SL B w b l aca F) :
    Calls Try.prog 13 #[.pointer (some ⟨b, 0, none⟩), .int .i64 nx] w fun e w' => ∃ v F', e = .returned v ∧ RO F' w' v (l.filter (pNx nx)) ∧ SL B w' b (l.filter fun t => !pNx nx t) aca F' ∧ Nxt B F F' w w' ∧ ∀ k, v.ownBlock = some k → w.heap.size ≤ k :=
  (abortAll_some b nx l aca F w hl hs.1).mono fun e w' ⟨v, he, hg⟩ => by
    obtain ⟨F', h1, h2, h3, h4⟩ := hs.gone hg
    exact ⟨v, F', he, h3, h1, h2, h4⟩
theorem abort_law (B b : Nat) (nx tag : Int) (l : List T) (aca : Int) (F : Nat → Prop) (w : World) (hl : l.length ≤ 1000) (hs : SL B w b l aca F) :
    Calls Try.prog 36 #[.pointer (some ⟨b, 0, none⟩), .int .i64 nx, .int .u32 tag] w fun e w' => ∃ v F', e = .returned v ∧ RO F' w' v (l.filter (hit nx tag)) ∧ SL B w' b (l.filter fun t => !hit nx tag t) aca F' ∧ Nxt B F F' w w' ∧ ∀ k, v.ownBlock = some k → w.heap.size ≤ k :=
  (abort_some b nx tag l aca F w hl hs.1).mono fun e w' ⟨v, he, hg⟩ => by
    obtain ⟨F', h1, h2, h3, h4⟩ := hs.gone hg
    exact ⟨v, F', he, h3, h1, h2, h4⟩
theorem clear_law (B b : Nat) (l : List T) (aca : Int) (F : Nat → Prop) (w : World) (hl : l.length ≤ 1000) (hs : SL B w b l aca F) :
    Calls Try.prog 14 #[.pointer (some ⟨b, 0, none⟩)] w fun e w' => ∃ v F', e = .returned v ∧ RO F' w' v l ∧ SL B w' b [] (-1) F' ∧ Nxt B F F' w w' ∧ ∀ k, v.ownBlock = some k → w.heap.size ≤ k :=
  (clear_some b l aca F w hl hs.1).mono fun e w' ⟨v, he, hg⟩ => by
    obtain ⟨F', h1, h2, h3, h4⟩ := hs.gone hg
    have e1 : l.filter pAll = l := by simp [pAll]
    have e2 : (l.filter fun t => !pAll t) = [] := by simp [pAll]
    rw [e1] at h3
    rw [e2] at h1
    exact ⟨v, F', he, h3, h1, h2, h4⟩
theorem enter_law (B b : Nat) (t : T) (l : List T) (aca : Int) (F : Nat → Prop) (w : World) (hl : l.length ≤ 16) (hs : SL B w b l aca F) :
    Calls Try.prog 12 #[.pointer (some ⟨b, 0, none⟩), av t] w fun e w' => ∃ F', e = .returned (.tuple #[.int .u8 (ent l aca t).1, .int .i64 (ent l aca t).2.1]) ∧ SL B w' b (ent l aca t).2.2 aca F' ∧ Nxt B F F' w w' :=
  (enter_some b t l aca F w hl hs.1).mono fun e w' ⟨he, h1, h2⟩ => by
    obtain ⟨h3, h4⟩ := hs.plus h1 h2
    exact ⟨_, he, h3, h4⟩
theorem start_law (B b : Nat) (nx tag : Int) (l : List T) (aca : Int) (F : Nat → Prop) (w : World) (hl : l.length ≤ 1000) (hs : SL B w b l aca F) :
    Calls Try.prog 17 #[.pointer (some ⟨b, 0, none⟩), .int .i64 nx, .int .u32 tag] w fun e w' => ∃ F', e = .returned (.int .i64 (sta l aca nx tag).1) ∧ SL B w' b (sta l aca nx tag).2 aca F' ∧ Nxt B F F' w w' :=
  (start_some b nx tag l aca F w hl hs.1).mono fun e w' ⟨he, h1, h2⟩ => by
    obtain ⟨h3, h4⟩ := hs.plus h1 h2
    exact ⟨_, he, h3, h4⟩
theorem end_law (B b : Nat) (nx tag : Int) (l : List T) (aca : Int) (F : Nat → Prop) (w : World) (hl : l.length ≤ 1000) (hs : SL B w b l aca F) :
    Calls Try.prog 18 #[.pointer (some ⟨b, 0, none⟩), .int .i64 nx, .int .u32 tag] w fun e w' => ∃ F', e = .returned (.int .i64 (fin l nx tag).1) ∧ SL B w' b (fin l nx tag).2 aca F' ∧ Nxt B F F' w w' :=
  (end_some b nx tag l aca F w hl hs.1).mono fun e w' ⟨he, h1, h2⟩ => by
    obtain ⟨h3, h4⟩ := hs.plus h1 h2
    exact ⟨_, he, h3, h4⟩
theorem establish_law (B b : Nat) (n : Int) (l : List T) (aca : Int) (F : Nat → Prop) (w : World) (hs : SL B w b l aca F) :
    Calls Try.prog 19 #[.pointer (some ⟨b, 0, none⟩), .int .i64 n] w fun e w' => e = .returned (.int .i64 (est aca n).1) ∧ SL B w' b l (est aca n).2 F ∧ Nxt B F F w w' :=
  (establish_some b n l aca F w hs.1).mono fun e w' ⟨he, h1, h2⟩ => by
    obtain ⟨h3, h4⟩ := hs.same h1 h2
    exact ⟨he, h3, h4⟩
theorem new_law (w : World) (B : Nat) (hB : B ≤ w.heap.size) :
    Calls Try.prog 15 #[] w fun e w' => ∃ b F, e = .returned (.pointer (some ⟨b, 0, none⟩)) ∧ SL B w' b [] (-1) F ∧ Mod (fun _ => False) w w' :=
  (new_any w).mono fun e w' ⟨he, hs, hm⟩ => ⟨_, _, he, ⟨hs, fun k hk => (by
    rcases hk with hk | ⟨h1, h2⟩
    · exact hk.elim
    · exact ⟨Nat.le_trans hB h1, h2⟩), Nat.le_trans hB hm.size⟩, hm⟩
theorem ready_law (B b : Nat) (l : List T) (aca : Int) (F : Nat → Prop) (w : World) (hl : l.length ≤ 1000) (hs : SL B w b l aca F) :
    Calls Try.prog 16 #[.pointer (some ⟨b, 0, none⟩)] w fun e w' => ∃ v, e = .returned v ∧ RO F w' v (readyL l aca) ∧ SL B w' b l aca F ∧ Nxt B F F w w' :=
  (ready_some b l aca F w hl hs.1).mono fun e w' ⟨v, he, hr, hm, ho⟩ => by
    obtain ⟨h1, h2⟩ := hs.quiet hm
    exact ⟨v, he, ⟨hr, fun k hk hf => by have := ho k hk; have := (hs.2.1 k hf).2; omega⟩, h1, h2⟩
theorem relieve_law (B b : Nat) (l : List T) (aca : Int) (F : Nat → Prop) (w : World) (hl : l.length ≤ 1000) (hs : SL B w b l aca F) :
    Calls Try.prog 21 #[.pointer (some ⟨b, 0, none⟩)] w fun e w' => ∃ v F', e = .returned v ∧ RO F' w' v (if aca < 0 then [] else l.filter pAca) ∧ SL B w' b (if aca < 0 then l else l.filter fun t => !pAca t) (if aca < 0 then aca else -1) F' ∧ Nxt B F F' w w' ∧ ∀ k, v.ownBlock = some k → w.heap.size ≤ k := by
  by_cases ha : aca < 0
  · simp only [if_pos ha]
    exact (relieve_no b l aca F w hs.1 ha).mono fun e w' ⟨he, hw⟩ => by
      subst hw
      exact ⟨_, F, he, ⟨Row.nil _ _ _ _, by simp [Value.ownBlock]⟩, hs, (hs.quiet (Mod.refl _ w)).2, by simp [Value.ownBlock]⟩
  · simp only [if_neg ha]
    exact (relieve_some b l aca F w hl hs.1 (by omega)).mono fun e w' ⟨v, he, hg⟩ => by
      obtain ⟨F', h1, h2, h3, h4⟩ := hs.gone hg
      exact ⟨v, F', he, h3, h1, h2, h4⟩
theorem stands_law (B b : Nat) (l : List T) (aca : Int) (F : Nat → Prop) (w : World) (hs : SL B w b l aca F) :
    Calls Try.prog 20 #[.pointer (some ⟨b, 0, none⟩)] w fun e w' => e = .returned (.int .i64 aca) ∧ w = w' := stands_some b l aca F w hs.1
end Go.Proofs.Ytabkplmpkdbchaa
