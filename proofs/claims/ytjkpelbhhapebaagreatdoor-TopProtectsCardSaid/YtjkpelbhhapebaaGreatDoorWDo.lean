/-
  The world as a state, and 'do', walked. Conditions: a world in memory of its own; changes of ordinary sizes.
-/
import Derived.Test.YtjkpelbhhapebaaGreatDoorWState
namespace Go.Proofs.YtjkpelbhhapebaaGreatDoor.W
open Go.RowKit Go.Maps
set_option maxRecDepth 100000
/-- What a world has. -/
structure Wd where
  seen : ByteArray → Option (List Int)
  dur : ByteArray → Option (List Int)
  waits : List Cg
  ops : Nat
  fl : Int → Bool
/-- A change that waits, with the slice of its bytes. -/
abbrev Wt := Cg × Option Addr × Nat
def sv (x : Wt) : Value := .slice x.2.1 x.1.p.length x.2.2
def encC (x : Wt) : List Value := [.int .u8 x.1.k, .string x.1.name, .string x.1.nto, .int .i64 x.1.off, sv x]
theorem encC_len : ∀ x, (encC x).length = 5 := fun _ => rfl
theorem encC_one : ∀ x, ∀ u ∈ encC x, u.oneCell' = true := by
  intro x u hu
  simp [encC, sv] at hu
  rcases hu with rfl | rfl | rfl | rfl | rfl <;> rfl
theorem elem54 : Elem Tryz.prog 119 (.agg #[.int .u8 0, .string ⟨#[]⟩, .string ⟨#[]⟩, .int .i64 0, .slice none 0 0]) 5 72 := ⟨by kernel_rfl, rfl, by decide⟩
instance : Inhabited Wt := ⟨(default, none, 0)⟩
/-- The world at block b, part by part. -/
structure WX (w : World) (b : Nat) (d : Wd) (N sb db : Nat) (wv fv : Value) (vs : List Wt) (Fb : Nat → Prop) : Prop where
  bk : Bk w b sb db wv fv d.ops
  seen : FS w sb N d.seen Fb
  dur : FS w db N d.dur Fb
  ne : sb ≠ db
  row : Row w 119 5 encC wv vs
  wts : vs.map (·.1) = d.waits
  byt : ∀ x ∈ vs, Rb w (sv x) x.1.p Fb
  fls : FL w fv N d.fl
  nb : ¬ Fb b
  nw : ∀ k, wv.ownBlock = some k → ¬ Fb k
  nf : ∀ k, fv = .map (some k) → ¬ Fb k ∧ k ≠ sb ∧ k ≠ db
  ok1 : Ok1 d.seen
  ok2 : Ok1 d.dur
  okc : ∀ c ∈ d.waits, OkC c
  lo : d.ops ≤ N
  lw : d.waits.length ≤ N
/-- The world's blocks. -/
def Ct (b sb db : Nat) (wv fv : Value) : Nat → Prop := fun k => k = b ∨ k = sb ∨ k = db ∨ wv.ownBlock = some k ∨ fv = .map (some k)
/-- The world at block b; all of it lies in F, at B or behind. -/
def WS (B : Nat) (w : World) (b : Nat) (d : Wd) (N : Nat) (F : Nat → Prop) : Prop :=
  (∃ sb db wv fv vs Fb, WX w b d N sb db wv fv vs Fb ∧ ∀ k, Ct b sb db wv fv k ∨ Fb k → F k) ∧ (∀ k, F k → B ≤ k ∧ k < w.heap.size) ∧ B ≤ w.heap.size
/-- What a call on the world in F has turned, whose world lies in F' behind it. -/
def Nxt (B : Nat) (F F' : Nat → Prop) (w w' : World) : Prop := Mod F w w' ∧ Below B w w' ∧ ∀ k, k < w.heap.size → F' k → F k
theorem Nxt.trans {B : Nat} {F F' F'' : Nat → Prop} {a b c : World} (h : Nxt B F F' a b) (k : Nxt B F' F'' b c) : Nxt B F F'' a c :=
  ⟨h.1.trans k.1 h.2.2, h.2.1.trans k.2.1, fun i hi hf => h.2.2 i hi (k.2.2 i (Nat.lt_of_lt_of_le hi h.1.size) hf)⟩
theorem FS.map {w : World} {mb n : Nat} {f : ByteArray → Option (List Int)} {F : Nat → Prop} (h : FS w mb n f F) : ∃ es ck, w.heap[mb]? = some (.map es ck) := by
  obtain ⟨m, ⟨D, ⟨es, ck, hb, _⟩, _⟩, _⟩ := h
  exact ⟨es, ck, hb⟩
theorem FS.ne {w : World} {mb n k : Nat} {f : ByteArray → Option (List Int)} {F : Nat → Prop} {cs : Array Value} {t : TypeId} {fr : Nat × Nat} (h : FS w mb n f F) (hk : w.heap[k]? = some (.cells cs t fr)) : k ≠ mb := by
  rintro rfl
  obtain ⟨es, ck, hb⟩ := h.map
  rw [hb] at hk
  cases hk
theorem FL.ne {w : World} {fv : Value} {n k : Nat} {fl : Int → Bool} {cs : Array Value} {t : TypeId} {fr : Nat × Nat} (h : FL w fv n fl) (hk : w.heap[k]? = some (.cells cs t fr)) : fv ≠ .map (some k) := by
  rintro e
  rcases h with ⟨e2, _⟩ | ⟨fb, D, e2, ⟨es, ck, hb, _⟩, _⟩
  · rw [e] at e2; cases e2
  · rw [e] at e2
    injection e2 with e2
    injection e2 with e2
    subst e2
    rw [hb] at hk
    cases hk
theorem _root_.Go.Proofs.YtjkpelbhhapebaaGreatDoor.Row.cellsOf {α : Type} {w : World} {e : TypeId} {sz : Nat} {enc : α → List Value} {v : Value} {l : List α} (h : Row w e sz enc v l) (k : Nat) (hk : v.ownBlock = some k) : ∃ cs t fr, w.heap[k]? = some (.cells cs t fr) := by
  rcases h.2 with ⟨rfl, _⟩ | ⟨g', cap, cur, rfl, _, hh, _⟩
  · simp [Value.ownBlock] at hk
  · have : g' = k := by simpa [Value.ownBlock] using hk
    subst this
    exact ⟨_, _, _, hh⟩
section
variable {B : Nat} {w w' : World} {b N sb db : Nat} {d : Wd} {wv fv : Value} {vs : List Wt} {F G Fb : Nat → Prop}
/-- The blocks are unlike each other. -/
theorem WX.parts (h : WX w b d N sb db wv fv vs Fb) : b ≠ sb ∧ b ≠ db ∧ wv.ownBlock ≠ some b ∧ fv ≠ .map (some b) ∧ (∀ k, wv.ownBlock = some k → k ≠ sb ∧ k ≠ db ∧ fv ≠ .map (some k)) ∧ ¬ Fb sb ∧ ¬ Fb db :=
  ⟨h.seen.ne h.bk, h.dur.ne h.bk, h.row.ne h.bk (by decide), h.fls.ne h.bk, fun k hk => (by
    obtain ⟨cs, t, fr, hh⟩ := h.row.cellsOf k hk
    exact ⟨h.seen.ne hh, h.dur.ne hh, h.fls.ne hh⟩), by obtain ⟨_, _, q, _⟩ := h.seen; exact q, by obtain ⟨_, _, q, _⟩ := h.dur; exact q⟩
theorem WX.mod (h : WX w b d N sb db wv fv vs Fb) (hm : Mod G w w') (hG : ∀ k, Ct b sb db wv fv k ∨ Fb k → ¬ G k) : WX w' b d N sb db wv fv vs Fb where
  bk := h.bk.mod hm (hG b (.inl (.inl rfl)))
  seen := h.seen.mod hm (fun k hk => hG k (.inr hk)) (hG sb (.inl (.inr (.inl rfl))))
  dur := h.dur.mod hm (fun k hk => hG k (.inr hk)) (hG db (.inl (.inr (.inr (.inl rfl)))))
  ne := h.ne
  row := h.row.mod hm fun k hk => hG k (.inl (.inr (.inr (.inr (.inl hk)))))
  wts := h.wts
  byt := fun x hx => (h.byt x hx).mod hm fun k hk => hG k (.inr hk)
  fls := h.fls.mod hm fun k hk => hG k (.inl (.inr (.inr (.inr (.inr hk)))))
  nb := h.nb
  nw := h.nw
  nf := h.nf
  ok1 := h.ok1
  ok2 := h.ok2
  okc := h.okc
  lo := h.lo
  lw := h.lw
theorem WX.ct (h : WX w b d N sb db wv fv vs Fb) (k : Nat) (hk : Ct b sb db wv fv k) : k < w.heap.size ∧ ¬ Fb k := by
  obtain ⟨-, -, -, -, -, n1, n2⟩ := h.parts
  rcases hk with rfl | rfl | rfl | hk | hk
  · exact ⟨h.bk.lt, h.nb⟩
  · exact ⟨h.seen.lt, n1⟩
  · exact ⟨h.dur.lt, n2⟩
  · exact ⟨h.row.lt k hk, h.nw k hk⟩
  · exact ⟨h.fls.lt k hk, (h.nf k hk).1⟩
theorem WS.mod (h : WS B w b d N F) (hm : Mod G w w') (hG : ∀ k, F k → ¬ G k) : WS B w' b d N F := by
  obtain ⟨⟨sb, db, wv, fv, vs, Fb, h1, h2⟩, h3, h4⟩ := h
  exact ⟨⟨sb, db, wv, fv, vs, Fb, h1.mod hm fun k hk => hG k (h2 k hk), h2⟩, fun k hk => ⟨(h3 k hk).1, Nat.lt_of_lt_of_le (h3 k hk).2 hm.size⟩, Nat.le_trans h4 hm.size⟩
/-- The world's block with one call more. -/
theorem WX.tick (h : WX w b d N sb db wv fv vs Fb) (hb : Bk w' b sb db wv fv (d.ops + 1)) (hm : Mod (fun k => k = b) w w') : WX w' b { d with ops := d.ops + 1 } (N + 1) sb db wv fv vs Fb := by
  obtain ⟨n1, n2, n3, n4, n5, n6, n7⟩ := h.parts
  have hd : ∀ k, Fb k → ¬ k = b := fun k hk e => h.nb (e ▸ hk)
  exact { bk := hb, seen := (h.seen.mod hm hd (fun e => n1 e.symm)).le (Nat.le_succ N), dur := (h.dur.mod hm hd (fun e => n2 e.symm)).le (Nat.le_succ N), ne := h.ne,
          row := h.row.mod hm (fun k hk e => n3 (e ▸ hk)), wts := h.wts, byt := fun x hx => (h.byt x hx).mod hm hd, fls := (h.fls.mod hm fun k hk e => n4 (e ▸ hk)).mono (Nat.le_succ N),
          nb := h.nb, nw := h.nw, nf := h.nf, ok1 := h.ok1, ok2 := h.ok2, okc := h.okc, lo := Nat.succ_le_succ h.lo, lw := Nat.le_succ_of_le h.lw }
end
end Go.Proofs.YtjkpelbhhapebaaGreatDoor.W
