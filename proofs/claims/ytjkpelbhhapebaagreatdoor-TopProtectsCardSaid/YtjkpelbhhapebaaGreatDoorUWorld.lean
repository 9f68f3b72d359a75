/-
  The world as the unit sees it: no call fails, and what it has done stays below a bound. Conditions: as stated.
-/
import Derived.Test.YtjkpelbhhapebaaGreatDoorBlock
import Derived.Test.YtjkpelbhhapebaaGreatDoorWCrash
import Derived.Great.BuildSlice
namespace Go.Proofs.YtjkpelbhhapebaaGreatDoor
open Go.RowKit
open W (Wd Cg WS Nxt ap er did synced crashed tick)
set_option maxRecDepth 100000
/-- What files hold, what of it is durable, what waits. -/
structure Wx where
  seen : ByteArray → Option (List Int)
  dur : ByteArray → Option (List Int)
  waits : List Cg
def Wd.x (d : Wd) : Wx := ⟨d.seen, d.dur, d.waits⟩
/-- The world at block b, in F; M bounds what it has done. -/
def WU (B : Nat) (w : World) (b M : Nat) (x : Wx) (F : Nat → Prop) : Prop := ∃ d N, WS B w b d N F ∧ (∀ i, d.fl i = false) ∧ N + d.waits.length ≤ M ∧ Wd.x d = x
def Wx.file (x : Wx) (s : ByteArray) : List Int := (x.seen s).getD []
/-- A write of bytes. -/
def wch (s : ByteArray) (off : Nat) (l : List Int) : Cg := ⟨119, s, ⟨#[]⟩, off, l⟩
def Wx.wrote (x : Wx) (s : ByteArray) (off : Nat) (l : List Int) : Wx := ⟨ap x.seen (wch s off l) l.length, x.dur, x.waits ++ [wch s off l]⟩
def Wx.synced (x : Wx) : Wx := ⟨x.seen, W.apAll x.dur x.waits, []⟩
def Wx.crashed (x : Wx) (keep : Nat) : Wx := ⟨W.crN x.dur x.waits keep 0 x.waits.length, W.crN x.dur x.waits keep 0 x.waits.length, []⟩
def wx0 : Wx := ⟨fun _ => none, fun _ => none, []⟩
section
variable {B b M : Nat} {x : Wx} {F G : Nat → Prop} {w w' : World}
theorem WU.mod (h : WU B w b M x F) (hm : Mod G w w') (hG : ∀ k, F k → ¬ G k) : WU B w' b M x F := by
  obtain ⟨d, N, h1, h2⟩ := h
  exact ⟨d, N, h1.mod hm hG, h2⟩
theorem WU.bound (h : WU B w b M x F) (k : Nat) (hk : F k) : B ≤ k ∧ k < w.heap.size := by
  obtain ⟨d, N, h1, -⟩ := h
  exact h1.2.1 k hk
theorem WU.le (h : WU B w b M x F) {K : Nat} (hk : M ≤ K) : WU B w b K x F := by
  obtain ⟨d, N, h1, h2, h3, h4⟩ := h
  exact ⟨d, N, h1, h2, by omega, h4⟩
end
theorem wu_new (w : World) (B : Nat) (hB : B ≤ w.heap.size) : Calls Tryz.prog 9 #[] w fun e w' => ∃ b F, e = .returned (.pointer (some ⟨b, 0, none⟩)) ∧ WU B w' b 0 wx0 F ∧ Mod (fun _ => False) w w' ∧ ∀ k, F k → w.heap.size ≤ k :=
  (W.new_any w B hB).mono fun e w' ⟨b, F, h1, h2, h3, h4⟩ => ⟨b, F, h1, ⟨W.wd0, 0, h2, fun _ => rfl, by simp [W.wd0], rfl⟩, h3, h4⟩
theorem wu_read (B b M : Nat) (x : Wx) (F : Nat → Prop) (s : ByteArray) (off n : Nat) (w : World) (h : WU B w b M x F) (hM : M < 100000) (h1 : 1 ≤ s.size) (h2 : s.size ≤ 32) (hn : n ≤ 100000) (ho : off ≤ 100000) :
    Calls Tryz.prog 115 #[.pointer (some ⟨b, 0, none⟩), .string s, .int .i64 off, .int .i64 n] w fun e w' => ∃ v er, e = .returned (.tuple #[v, .int .i64 er]) ∧ er = (if (x.seen s).isSome then 0 else 8) ∧ Row w' 5 1 (ic .u8) v (((x.file s).drop off).take n) ∧
      (∀ k, v.ownBlock = some k → w.heap.size ≤ k) ∧ WU B w' b (M + 1) x F ∧ Nxt B F F w w' := by
  obtain ⟨d, N, k1, k2, k3, rfl⟩ := h
  show Calls Tryz.prog 115 #[.pointer (some ⟨b, 0, none⟩), .string s, .int .i64 off, .int .i64 n] w fun e w' => ∃ v er, e = .returned (.tuple #[v, .int .i64 er]) ∧ er = (if (d.seen s).isSome then 0 else 8) ∧ Row w' 5 1 (ic .u8) v ((((d.seen s).getD []).drop off).take n) ∧
      (∀ k, v.ownBlock = some k → w.heap.size ≤ k) ∧ WU B w' b (M + 1) (Wd.x d) F ∧ Nxt B F F w w'
  cases hs : d.seen s with
  | none =>
    exact (W.read_none B b d N F s off n w k1 (by omega) (k2 _) h1 h2 hs).mono fun e w' ⟨e1, e2, e3⟩ => ⟨_, 8, e1, by simp, by simpa using Row.nil _ _ _ _, by simp [Value.ownBlock], ⟨tick d, _, e2, k2, by simp [tick]; omega, rfl⟩, e3⟩
  | some L =>
    exact (W.read_some B b d N F s off n L w k1 (by omega) (k2 _) h1 h2 hs hn ho).mono fun e w' ⟨v, e1, e2, e3, e4, e5⟩ => ⟨v, 0, e1, by simp, e2, e3, ⟨tick d, _, e4, k2, by simp [tick]; omega, rfl⟩, e5⟩
theorem wu_write (B b M : Nat) (x : Wx) (F : Nat → Prop) (s : ByteArray) (off : Nat) (A : Option Addr) (m cap : Nat) (l : List Int) (w : World) (h : WU B w b M x F) (hM : M < 100000) (h1 : 1 ≤ s.size) (h2 : s.size ≤ 32) (hr : Rd w 1 (ic .u8) A m l) (ho : off + m ≤ 1048576) :
    Calls Tryz.prog 153 #[.pointer (some ⟨b, 0, none⟩), .string s, .int .i64 off, .slice A m cap] w fun e w' => ∃ F', e = .returned (.int .i64 0) ∧ WU B w' b (M + 2) (x.wrote s off l) F' ∧ Nxt B F F' w w' := by
  obtain ⟨d, N, k1, k2, k3, rfl⟩ := h
  refine (W.write_some B b d N F s off A m cap l w k1 (by omega) h1 h2 hr ho).mono fun e w' ⟨F', e1, e2, e3⟩ => ⟨F', by rw [e1, er, k2]; rfl, ⟨_, _, e2, ?_, ?_, ?_⟩, e3⟩
  · intro i
    rw [did, k2]
    exact k2 i
  · rw [did, k2]
    simp
    omega
  · rw [did, k2]
    rfl
theorem wu_sync (B b M : Nat) (x : Wx) (F : Nat → Prop) (w : World) (h : WU B w b M x F) (hM : M < 100000) :
    Calls Tryz.prog 142 #[.pointer (some ⟨b, 0, none⟩)] w fun e w' => ∃ F', e = .returned (.int .i64 0) ∧ WU B w' b (M + 1) x.synced F' ∧ Nxt B F F' w w' := by
  obtain ⟨d, N, k1, k2, k3, rfl⟩ := h
  exact (W.sync_some B b d N F w k1 (by omega) (k2 _)).mono fun e w' ⟨F', e1, e2, e3⟩ => ⟨F', e1, ⟨_, _, e2, k2, by simp [synced]; omega, rfl⟩, e3⟩
theorem wu_crash (B b M keep : Nat) (x : Wx) (F : Nat → Prop) (w : World) (h : WU B w b M x F) (hM : M < 100000) :
    Calls Tryz.prog 15 #[.pointer (some ⟨b, 0, none⟩), .int .i64 keep, .int .i64 0] w fun e w' => ∃ F', e = .returned (.tuple #[]) ∧ WU B w' b M (x.crashed keep) F' ∧ Nxt B F F' w w' := by
  obtain ⟨d, N, k1, k2, k3, rfl⟩ := h
  exact (W.crash_some B b d N keep 0 F w k1 (by omega) (by decide)).mono fun e w' ⟨F', e1, e2, e3⟩ => ⟨F', e1, ⟨_, _, e2, fun _ => rfl, by simp [crashed]; omega, rfl⟩, e3⟩
/-- The block that a file has at a place. -/
def blkAt (f : List Int) (i : Nat) : Bl := decB ((f.drop (i * 25)).take 25)
/-- A slice of one block. -/
theorem build_ba (b : Bl) (w : World) : (Instr.buildSlice 217 1 #[(0, .agg (ba b))]).run Tryz.prog w = .ok (.slice (some ⟨w.heap.size, 0, none⟩) 1 1) (w.alloc (.cells (ba b) 259)) := by
  obtain ⟨ie, hie⟩ : ∃ ie, Tryz.prog.info? 259 = some ie := Option.isSome_iff_exists.1 (by kernel_rfl)
  have hs : ie.size = 19 := by
    have := size259
    rw [hie] at this
    exact Option.some.inj this
  have hz : ie.zero = some (.agg zs19) := by
    have : (Tryz.prog.info? 259).bind (·.zero) = some (.agg zs19) := by kernel_rfl
    rw [hie] at this
    exact this
  refine run_buildSlice w 217 259 1 _ (ba b) ie (.agg zs19) Tryz.underlying217 hie hz (by rw [hs]; decide) (by rw [hs]; decide) ?_
  rw [hs]
  have h := Great.fill_whole (s := 19) (by decide) [.agg (ba b)] ((Array.range (1 * 19)).map ((Value.agg zs19).cells[· % (Value.agg zs19).cells.size]!)) (fun v hv => by
    obtain rfl := List.mem_singleton.1 hv
    exact ba_size b) (by simp)
  show _ = some (Value.agg (ba b)).cells
  simpa using h
section
variable {w : World} {ops : Array Oper} {rest : List Oper} {o : Oper} {a : Act} {Q : Exit → Act → World → Prop}
/-- A slice of one block is built. -/
theorem list_build (x : Operand) (ho : o.op = .buildSlice 217 1 #[(0, x)]) (hg : o.guard = none) (b : Bl) (hx : a.eval x = .agg (ba b))
    (h : wpList Tryz.prog ops Q rest (a.put o.dst (.slice (some ⟨w.heap.size, 0, none⟩) 1 1)) (w.alloc (.cells (ba b) 259))) : wpList Tryz.prog ops Q (o :: rest) a w := by
  refine wpList_plain hg fun _ hK => ?_
  have e : (#[(0, x)].map fun (i, x) => (i, a.eval x)) = #[(0, .agg (ba b))] := by simp [hx]
  have hb := build_ba b w
  unfold Oper.wp execOp
  simp only [ho]
  rw [e]
  simp only [Sem.run_bind, hb, Result.andThen_ok]
  exact hK _ _ h
end
theorem elemB : Elem Tryz.prog 259 (.agg zs19) 19 24 := ⟨by kernel_rfl, rfl, by decide⟩
end Go.Proofs.YtjkpelbhhapebaaGreatDoor
